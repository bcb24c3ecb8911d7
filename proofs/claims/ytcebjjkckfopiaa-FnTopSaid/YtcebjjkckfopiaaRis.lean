/-
  Rising lists of indices.
-/
import Derived.Test.YtcebjjkckfopiaaWhere
import Derived.Test.YtcebjjkckfopiaaErr0
namespace Go.Proofs.Ytcebjjkckfopiaa
open Go.RowKit
set_option maxRecDepth 100000
set_option linter.unusedVariables false
def risF (n : Int) : Int → List Int → Prop
  | _, [] => True
  | fro, x :: r => fro ≤ x ∧ x < n ∧ risF n (x + 1) r
theorem risF_where (n : Nat) (p : Nat → Bool) : ∀ j k : Nat, k + j = n → risF n k (((List.range' k j).filter p).map fun (i : Nat) => (i : Int))
  | 0, k, _ => trivial
  | j + 1, k, h => by
    have ih := risF_where n p j (k + 1) (by omega)
    have mono : ∀ (l : List Int), risF n ((k + 1 : Nat) : Int) l → risF n (k : Int) l := fun l hl => by
      cases l with
      | nil => trivial
      | cons x r => exact ⟨by have := hl.1; omega, hl.2.1, hl.2.2⟩
    rw [List.range'_succ]
    by_cases hp : p k = true
    · rw [List.filter_cons_of_pos hp, List.map_cons]
      exact ⟨Int.le_refl _, by omega, by rw [show ((k : Nat) : Int) + 1 = ((k + 1 : Nat) : Int) by omega]; exact ih⟩
    · rw [List.filter_cons_of_neg hp]
      exact mono _ ih
theorem whereL_ris (n : Nat) (p : Nat → Bool) : risF n 0 (whereL n p) := by
  have := risF_where n p n 0 (by omega)
  unfold whereL
  rw [List.range_eq_range']
  exact this
theorem risF_two (n : Int) : ∀ {fro : Int} {l : List Int}, risF n fro l → (∀ (i : Nat) (x : Int), l[i]? = some x → fro ≤ x ∧ x < n) ∧ ∀ (i : Nat) (x y : Int), l[i]? = some x → l[i + 1]? = some y → x < y
  | _, [], _ => ⟨fun i x h => by simp at h, fun i x y h => by simp at h⟩
  | fro, z :: r, h => by
    obtain ⟨h1, h2, h3⟩ := h
    obtain ⟨a, b⟩ := risF_two n h3
    refine ⟨fun i x hx => ?_, fun i x y hx hy => ?_⟩
    · cases i with
      | zero => obtain rfl : z = x := by simpa using hx
                exact ⟨h1, h2⟩
      | succ i => have := a i x (by simpa using hx); omega
    · cases i with
      | zero =>
        obtain rfl : z = x := by simpa using hx
        have := a 0 y (by simpa using hy); omega
      | succ i => exact b i x y (by simpa using hx) (by simpa using hy)
theorem risF_at {n : Int} : ∀ {fro : Int} {l : List Int}, risF n fro l → ∀ (k : Nat) (x : Int), l[k]? = some x → fro ≤ x ∧ x < n
  | fro, [], _, k, x, h => by simp at h
  | fro, y :: r, ⟨h1, h2, h3⟩, 0, x, h => by
    simp at h
    subst h
    exact ⟨h1, h2⟩
  | fro, y :: r, ⟨h1, h2, h3⟩, k + 1, x, h => by
    have := risF_at h3 k x (by simpa using h)
    exact ⟨by omega, this.2⟩
theorem risF_lt {n : Int} : ∀ {fro : Int} {l : List Int}, risF n fro l → ∀ (k : Nat) (x y : Int), l[k]? = some x → l[k + 1]? = some y → x < y
  | fro, [], _, k, x, y, h, _ => by simp at h
  | fro, z :: r, ⟨h1, h2, h3⟩, 0, x, y, h, h' => by
    simp at h
    subst h
    have := risF_at h3 0 y (by simpa using h')
    omega
  | fro, z :: r, ⟨h1, h2, h3⟩, k + 1, x, y, h, h' => risF_lt h3 k x y (by simpa using h) (by simpa using h')
set_option maxHeartbeats 1000000 in
theorem a2Rises_any (l : List Int) (a : Option Addr) (n c m : Nat) (w : World) (hn : n ≤ 1000000) (hm : m ≤ 1000000) (hl : l.length = n) (hris : risF m 0 l) (hr : Rd eI 1 w a l) : Calls Try.prog 15 #[.slice a n c, .int .i64 m] w fun e w' => e = .returned (.bool true) ∧ Below w.heap.size w w' := by
  have HL := Lib.hid hl
  have HR := Lib.hid hr
  clear hl hr
  go_enter Try.func15, Try.ntmps15
  go_wp2_with fail
  go_loopw [5] (fun i wr => ∃ (k : Nat), k ≤ n ∧ i = .int .i64 k ∧ Hid (Below w.heap.size w wr)) (fun i _ => n - (intOf i).toNat)
  case atStart => exact ⟨0, Nat.zero_le _, rfl, Lib.hid (Below.refl _ _)⟩
  case round =>
    obtain ⟨k, hk, rfl, HBk⟩ := hrel
    obtain ⟨wr1, hwr⟩ : ∃ wx, wx = wr := ⟨_, rfl⟩
    subst hwr
    have HB2 := HBk
    clear HBk
    by_cases hlt : k < n
    · obtain ⟨x, hx⟩ : ∃ z, (l)[k]? = some z := ⟨_, List.getElem?_eq_getElem (by rw [HL.out]; omega)⟩
      have HXx := Lib.hid hx
      clear hx
      have hbx := risF_at hris k x HXx.out
      have hb0 := hbx.1
      have hb1 := hbx.2
      clear hbx
      have d0 : decide (x < 0) = false := decide_eq_false (by omega)
      have d1 : decide ((m : Int) ≤ x) = false := decide_eq_false (by omega)
      by_cases hc9 : 0 < (k : Int)
      · have d10 : decide (0 < (k : Int)) = true := decide_eq_true hc9
        have d10n : decide (0 < k) = true := decide_eq_true (by omega)
        obtain ⟨b11, o12, hab, HC13⟩ := HR.out.addr1 (by rw [HL.out]; omega) (fun _ => rfl)
        have HC13_ := Lib.hid HC13
        clear HC13
        have HC13 := HC13_
        clear HC13_
        subst hab
        have c14 : wr1.cell? ⟨b11, o12 + k, none⟩ = some (.int .i64 x) := HC13.out k x HXx.out wr1 HB2.out
        have j15 : (0 : Int) ≤ (k : Nat) := by omega
        have j16 : ((k : Nat) : Int) < n := by omega
        have i17 : IntKind.i64.wrap ((k : Int) - 1) = (k : Int) - 1 := IntWalk.i64_in _ (by omega)
        obtain ⟨x18, hx⟩ : ∃ z, (l)[k - 1]? = some z := ⟨_, List.getElem?_eq_getElem (by rw [HL.out]; omega)⟩
        have HXx18 := Lib.hid hx
        clear hx
        have hlt9 := risF_lt hris (k - 1) x18 x (by have := HXx18.out; simpa using this) (by rw [show k - 1 + 1 = k by omega]; exact HXx.out)
        have dp : decide (x ≤ x18) = false := decide_eq_false (by omega)
        have c19 : wr1.cell? ⟨b11, o12 + (k - 1), none⟩ = some (.int .i64 x18) := HC13.out (k - 1) x18 HXx18.out wr1 HB2.out
        have j20 : (0 : Int) ≤ (k : Int) - 1 := by omega
        have j21 : (k : Int) - 1 < (n : Int) := by omega
        have j22 : ((k : Int) - 1).toNat = k - 1 := by omega
        go_wp2_with fail
        go_quiet (fail)
        have hbq : Below wr1.heap.size wr1 (wr1.drewN nq) := below_drewN (Below.refl _ _) nq
        obtain ⟨wv23, hwq⟩ : ∃ wq, wr1.drewN nq = wq := ⟨_, rfl⟩
        rw [hwq] at hbq ⊢
        clear hwq
        clear c14 j15 j16 i17 c19 j20 j21 j22
        have HB24 : Hid (Below w.heap.size w wv23) := Lib.hid (HB2.out.trans (hbq.mono HB2.out.size))
        clear hbq
        have i25 : IntKind.i64.wrap ((k : Int) + 1) = (k : Int) + 1 := IntWalk.i64_in _ (by omega)
        go_wp2_with fail
        go_roundw
        case rel => exact ⟨k + 1, by omega, by go_num, HB24⟩
        case measure => simp [intOf]; omega
      · have d26 : decide (0 < (k : Int)) = false := decide_eq_false hc9
        have d26n : decide (0 < k) = false := decide_eq_false (by omega)
        obtain ⟨b27, o28, hab, HC29⟩ := HR.out.addr1 (by rw [HL.out]; omega) (fun _ => rfl)
        have HC29_ := Lib.hid HC29
        clear HC29
        have HC29 := HC29_
        clear HC29_
        subst hab
        have c30 : wr1.cell? ⟨b27, o28 + k, none⟩ = some (.int .i64 x) := HC29.out k x HXx.out wr1 HB2.out
        have j31 : (0 : Int) ≤ (k : Nat) := by omega
        have j32 : ((k : Nat) : Int) < n := by omega
        go_wp2_with fail
        go_quiet (fail)
        have hbq : Below wr1.heap.size wr1 (wr1.drewN nq) := below_drewN (Below.refl _ _) nq
        obtain ⟨wv33, hwq⟩ : ∃ wq, wr1.drewN nq = wq := ⟨_, rfl⟩
        rw [hwq] at hbq ⊢
        clear hwq
        clear c30 j31 j32
        have HB34 : Hid (Below w.heap.size w wv33) := Lib.hid (HB2.out.trans (hbq.mono HB2.out.size))
        clear hbq
        have i35 : IntKind.i64.wrap ((k : Int) + 1) = (k : Int) + 1 := IntWalk.i64_in _ (by omega)
        go_wp2_with fail
        go_roundw
        case rel => exact ⟨k + 1, by omega, by go_num, HB34⟩
        case measure => simp [intOf]; omega
    · have hkn : k = n := by omega
      have HKN := Lib.hid hkn
      clear hkn
      go_wp2_with fail
      go_ret
      exact ⟨rfl, HB2.out⟩
end Go.Proofs.Ytcebjjkckfopiaa
