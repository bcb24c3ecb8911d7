/-
  Sums of squares of differences of pairs.
-/
import Derived.Test.YtloggipjmaiegaaErr1
namespace Go.Proofs.Ytloggipjmaiegaa
open Go.RowKit
set_option maxRecDepth 100000
theorem mul_bd {a b A B : Int} (h1 : -A ≤ a) (h2 : a ≤ A) (h3 : -B ≤ b) (h4 : b ≤ B) : -(A * B) ≤ a * b ∧ a * b ≤ A * B := by
  have hA : a.natAbs ≤ A.natAbs := by omega
  have hB : b.natAbs ≤ B.natAbs := by omega
  have h := Nat.mul_le_mul hA hB
  rw [← Int.natAbs_mul, ← Int.natAbs_mul] at h
  have hAB : 0 ≤ A * B := Int.mul_nonneg (by omega) (by omega)
  omega
theorem sq_bd {a A : Int} (h1 : -A ≤ a) (h2 : a ≤ A) : 0 ≤ a * a ∧ a * a ≤ A * A := by
  have h := mul_bd h1 h2 h1 h2
  exact ⟨by have := Int.natAbs_mul_self (a := a); omega, h.2⟩
/-- the squares of the differences of x from the first k numbers -/
def sqI (x : Int) (l : List Int) : Nat → Int
  | 0 => 0
  | k + 1 => sqI x l k + (match l[k]? with | some y => (x - y) * (x - y) | none => 0)
theorem sqI_succ {x y : Int} {l : List Int} {k : Nat} (h : l[k]? = some y) : sqI x l (k + 1) = sqI x l k + (x - y) * (x - y) := by simp [sqI, h]
def sqN (l : List Int) : Nat → Int
  | 0 => 0
  | k + 1 => sqN l k + (match l[k]? with | some x => sqI x l k | none => 0)
theorem sqN_succ {x : Int} {l : List Int} {k : Nat} (h : l[k]? = some x) : sqN l (k + 1) = sqN l k + sqI x l k := by simp [sqN, h]
theorem sqI_bd {x : Int} {l : List Int} (hx : -20000 ≤ x ∧ x ≤ 20000) (hl : ∀ y ∈ l, -20000 ≤ y ∧ y ≤ 20000) : ∀ k, 0 ≤ sqI x l k ∧ sqI x l k ≤ (k : Int) * 1600000000
  | 0 => by simp [sqI]
  | k + 1 => by
    have ih := sqI_bd hx hl k
    unfold sqI
    cases h : l[k]? with
    | none => simp only; omega
    | some y =>
      have hy := hl y (List.mem_of_getElem? h)
      have h2 := sq_bd (a := x - y) (A := 40000) (by omega) (by omega)
      simp only
      omega
theorem sqN_bd {l : List Int} (hl : ∀ y ∈ l, -20000 ≤ y ∧ y ≤ 20000) : ∀ k, 0 ≤ sqN l k ∧ sqN l k ≤ (k : Int) * ((k : Int) * 1600000000)
  | 0 => by simp [sqN]
  | k + 1 => by
    have ih := sqN_bd hl k
    have e : ((k + 1 : Nat) : Int) * (((k + 1 : Nat) : Int) * 1600000000) = (k : Int) * ((k : Int) * 1600000000) + 2 * ((k : Int) * 1600000000) + 1600000000 := by
      rw [show ((k + 1 : Nat) : Int) = (k : Int) + 1 by omega]; grind
    unfold sqN
    rw [e]
    cases h : l[k]? with
    | none => simp only; omega
    | some x =>
      have h2 := sqI_bd (hl x (List.mem_of_getElem? h)) hl k
      simp only
      omega
theorem sqN_in {l : List Int} (hl : ∀ y ∈ l, -20000 ≤ y ∧ y ≤ 20000) (k : Nat) (hk : k ≤ 200) : 0 ≤ sqN l k ∧ sqN l k ≤ 64000000000000 := by
  have h := sqN_bd hl k
  have h2 : (k : Int) * ((k : Int) * 1600000000) ≤ 200 * (200 * 1600000000) := by
    have a := mul_bd (a := (k : Int)) (b := (k : Int) * 1600000000) (A := 200) (B := 200 * 1600000000) (by omega) (by omega) (by omega) (by omega)
    exact a.2
  omega
theorem sqI_in {x : Int} {l : List Int} (hx : -20000 ≤ x ∧ x ≤ 20000) (hl : ∀ y ∈ l, -20000 ≤ y ∧ y ≤ 20000) (k : Nat) (hk : k ≤ 200) : 0 ≤ sqI x l k ∧ sqI x l k ≤ 320000000000 := by
  have h := sqI_bd hx hl k
  omega
set_option maxHeartbeats 4000000 in
theorem pairSq_any (ls : List Int) (a : Option Addr) (n c : Nat) (w : World) (hn : n ≤ 200) (hl : ls.length = n) (hr : Rd eI 1 w a ls) (hb : ∀ y ∈ ls, -20000 ≤ y ∧ y ≤ 20000) (hcap : n ≤ c) : Calls Try.prog 157 #[.slice a n c] w fun e w' => e = .returned (.int .i64 (sqN ls ls.length)) ∧ Below w.heap.size w w' := by
  have HL := Lib.hid hl
  have HR := Lib.hid hr
  have HBD := Lib.hid hb
  have HTN : Hid (sqN ls n = sqN ls ls.length) := Lib.hid (by rw [hl])
  clear hl hr hb
  go_enter Try.func157, Try.ntmps157
  go_wp2_with fail
  go_loopw [3, 10] (fun sm i wr => ∃ (k : Nat), k ≤ n ∧ i = .int .i64 k ∧ sm = .int .i64 (sqN ls k) ∧ Hid (Below w.heap.size w wr)) (fun _ i _ => n - (intOf i).toNat)
  case atStart => exact ⟨0, Nat.zero_le _, rfl, rfl, Lib.hid (Below.refl _ _)⟩
  case round =>
    obtain ⟨k, hk, rfl, rfl, HBk⟩ := hrel
    obtain ⟨wr1, hwr⟩ : ∃ wx, wx = wr := ⟨_, rfl⟩
    subst hwr
    have HB2 := HBk
    clear HBk
    by_cases hlt : k < n
    · obtain ⟨x, hx⟩ : ∃ z, (ls)[k]? = some z := ⟨_, List.getElem?_eq_getElem (by rw [HL.out]; omega)⟩
      have HXx := Lib.hid hx
      clear hx
      have hxb := HBD.out x (List.mem_of_getElem? HXx.out)
      obtain ⟨b3, o4, hab, HC5⟩ := HR.out.addr1 (by rw [HL.out]; omega) (fun _ => rfl)
      have HC5 := Lib.hid HC5
      subst hab
      have c6 : wr1.cell? ⟨b3, o4 + k, none⟩ = some (.int .i64 x) := HC5.out k x HXx.out wr1 HB2.out
      have j7 : (0 : Int) ≤ (k : Nat) := by omega
      have j8 : ((k : Nat) : Int) < n := by omega
      have j9 : ((k : Nat) : Int) ≤ (c : Nat) := by omega
      have j10 : k ≤ c := by omega
      go_wp2_with fail
      go_loopw [3, 19] (fun sm j wr => ∃ (q : Nat), q ≤ k ∧ j = .int .i64 q ∧ sm = .int .i64 (sqN ls k + sqI x ls q) ∧ Hid (Below w.heap.size w wr)) (fun _ j _ => k - (intOf j).toNat)
      case atStart => exact ⟨0, Nat.zero_le _, rfl, by rw [show sqI x ls 0 = 0 from rfl, Int.add_zero], HB2⟩
      case round =>
        obtain ⟨q, hq, rfl, rfl, HBk⟩ := hrel
        obtain ⟨wr11, hwr⟩ : ∃ wx, wx = wr := ⟨_, rfl⟩
        subst hwr
        have HB12 := HBk
        clear HBk
        by_cases hlt2 : q < k
        · obtain ⟨y, hx⟩ : ∃ z, (ls)[q]? = some z := ⟨_, List.getElem?_eq_getElem (by rw [HL.out]; omega)⟩
          have HXy := Lib.hid hx
          clear hx
          have hyb := HBD.out y (List.mem_of_getElem? HXy.out)
          have hsq := sq_bd (a := x - y) (A := 40000) (by omega) (by omega)
          have hqb := sqI_in hxb HBD.out q (by omega)
          have hkb := sqN_in HBD.out k (by omega)
          have HSI := Lib.hid (sqI_succ (x := x) HXy.out)
          have c13 : wr11.cell? ⟨b3, o4 + q, none⟩ = some (.int .i64 y) := HC5.out q y HXy.out wr11 HB12.out
          have j14 : (0 : Int) ≤ (q : Nat) := by omega
          have j15 : ((q : Nat) : Int) < k := by omega
          have i16 : IntKind.i64.wrap (x - y) = x - y := IntWalk.i64_in _ (by omega)
          have i17 : IntKind.i64.wrap ((x - y) * (x - y)) = (x - y) * (x - y) := IntWalk.i64_in _ (by omega)
          have i18 : IntKind.i64.wrap ((sqN ls k + sqI x ls q) + ((x - y) * (x - y))) = (sqN ls k + sqI x ls q) + ((x - y) * (x - y)) := IntWalk.i64_in _ (by omega)
          have i19 : IntKind.i64.wrap ((q : Int) + 1) = (q : Int) + 1 := IntWalk.i64_in _ (by omega)
          go_wp2_with fail
          go_roundw
          case rel => exact ⟨q + 1, by omega, by go_num, by rw [HSI.out, ← Int.add_assoc], HB12⟩
          case measure => simp [intOf]; omega
        · have hqk : q = k := by omega
          have HSN : Hid (sqN ls (k + 1) = sqN ls k + sqI x ls q) := Lib.hid (by rw [sqN_succ HXx.out, hqk])
          clear hqk
          have i20 : IntKind.i64.wrap ((k : Int) + 1) = (k : Int) + 1 := IntWalk.i64_in _ (by omega)
          go_wp2_with fail
          go_roundw
          case rel => exact ⟨k + 1, by omega, by go_num, by rw [HSN.out], HB12⟩
          case measure => simp [intOf]; omega
    · have hkn : k = n := by omega
      have HKN := Lib.hid hkn
      clear hkn
      go_wp2_with fail
      go_ret
      exact ⟨by rw [HKN.out, HTN.out]; rfl, HB2.out⟩
set_option maxHeartbeats 4000000 in
theorem l11Sq_any (ls : List Int) (a : Option Addr) (n c : Nat) (w : World) (hn : n ≤ 200) (hl : ls.length = n) (hr : Rd eI 1 w a ls) (hb : ∀ y ∈ ls, -20000 ≤ y ∧ y ≤ 20000) : Calls Try.prog 159 #[.slice a n c] w fun e w' => e = .returned (.int .i64 (sqN ls ls.length)) ∧ Below w.heap.size w w' := by
  have HL := Lib.hid hl
  have HR := Lib.hid hr
  have HBD := Lib.hid hb
  have HTN : Hid (sqN ls n = sqN ls ls.length) := Lib.hid (by rw [hl])
  clear hl hr hb
  go_enter Try.func159, Try.ntmps159
  go_wp2_with fail
  go_loopw [3, 4] (fun sm i wr => ∃ (k : Nat), k ≤ n ∧ i = .int .i64 k ∧ sm = .int .i64 (sqN ls k) ∧ Hid (Below w.heap.size w wr)) (fun _ i _ => n - (intOf i).toNat)
  case atStart => exact ⟨0, Nat.zero_le _, rfl, rfl, Lib.hid (Below.refl _ _)⟩
  case round =>
    obtain ⟨k, hk, rfl, rfl, HBk⟩ := hrel
    obtain ⟨wr1, hwr⟩ : ∃ wx, wx = wr := ⟨_, rfl⟩
    subst hwr
    have HB2 := HBk
    clear HBk
    by_cases hlt : k < n
    · obtain ⟨x, hx⟩ : ∃ z, (ls)[k]? = some z := ⟨_, List.getElem?_eq_getElem (by rw [HL.out]; omega)⟩
      have HXx := Lib.hid hx
      clear hx
      have hxb := HBD.out x (List.mem_of_getElem? HXx.out)
      go_wp2_with fail
      go_loopw [3, 5] (fun sm j wr => ∃ (q : Nat), q ≤ k ∧ j = .int .i64 q ∧ sm = .int .i64 (sqN ls k + sqI x ls q) ∧ Hid (Below w.heap.size w wr)) (fun _ j _ => k - (intOf j).toNat)
      case atStart => exact ⟨0, Nat.zero_le _, rfl, by rw [show sqI x ls 0 = 0 from rfl, Int.add_zero], HB2⟩
      case round =>
        obtain ⟨q, hq, rfl, rfl, HBk⟩ := hrel
        obtain ⟨wr3, hwr⟩ : ∃ wx, wx = wr := ⟨_, rfl⟩
        subst hwr
        have HB4 := HBk
        clear HBk
        by_cases hlt2 : q < k
        · obtain ⟨y, hx⟩ : ∃ z, (ls)[q]? = some z := ⟨_, List.getElem?_eq_getElem (by rw [HL.out]; omega)⟩
          have HXy := Lib.hid hx
          clear hx
          have hyb := HBD.out y (List.mem_of_getElem? HXy.out)
          have hsq := sq_bd (a := x - y) (A := 40000) (by omega) (by omega)
          have hqb := sqI_in hxb HBD.out q (by omega)
          have hkb := sqN_in HBD.out k (by omega)
          have HSI := Lib.hid (sqI_succ (x := x) HXy.out)
          obtain ⟨b5, o6, hab, HC7⟩ := HR.out.addr1 (by rw [HL.out]; omega) (fun _ => rfl)
          have HC7 := Lib.hid HC7
          subst hab
          have c8 : wr3.cell? ⟨b5, o6 + k, none⟩ = some (.int .i64 x) := HC7.out k x HXx.out wr3 HB4.out
          have j9 : (0 : Int) ≤ (k : Nat) := by omega
          have j10 : ((k : Nat) : Int) < n := by omega
          have c11 : wr3.cell? ⟨b5, o6 + q, none⟩ = some (.int .i64 y) := HC7.out q y HXy.out wr3 HB4.out
          have j12 : (0 : Int) ≤ (q : Nat) := by omega
          have j13 : ((q : Nat) : Int) < n := by omega
          have i14 : IntKind.i64.wrap (x - y) = x - y := IntWalk.i64_in _ (by omega)
          go_wp2_with fail
          go_quiet (fail)
          have hbq : Below wr3.heap.size wr3 (wr3.drewN nq) := below_drewN (Below.refl _ _) nq
          obtain ⟨wv15, hwq⟩ : ∃ wq, wr3.drewN nq = wq := ⟨_, rfl⟩
          rw [hwq] at hbq ⊢
          clear hwq
          clear c8 j9 j10 c11 j12 j13 i14
          have HB16 : Hid (Below w.heap.size w wv15) := Lib.hid (HB4.out.trans (hbq.mono HB4.out.size))
          clear hbq
          have i17 : IntKind.i64.wrap ((x - y) * (x - y)) = (x - y) * (x - y) := IntWalk.i64_in _ (by omega)
          have i18 : IntKind.i64.wrap ((sqN ls k + sqI x ls q) + ((x - y) * (x - y))) = (sqN ls k + sqI x ls q) + ((x - y) * (x - y)) := IntWalk.i64_in _ (by omega)
          have i19 : IntKind.i64.wrap ((q : Int) + 1) = (q : Int) + 1 := IntWalk.i64_in _ (by omega)
          go_wp2_with fail
          go_roundw
          case rel => exact ⟨q + 1, by omega, by go_num, by rw [HSI.out, ← Int.add_assoc], HB16⟩
          case measure => simp [intOf]; omega
        · have hqk : q = k := by omega
          have HSN : Hid (sqN ls (k + 1) = sqN ls k + sqI x ls q) := Lib.hid (by rw [sqN_succ HXx.out, hqk])
          clear hqk
          have i20 : IntKind.i64.wrap ((k : Int) + 1) = (k : Int) + 1 := IntWalk.i64_in _ (by omega)
          go_wp2_with fail
          go_roundw
          case rel => exact ⟨k + 1, by omega, by go_num, by rw [HSN.out], HB4⟩
          case measure => simp [intOf]; omega
    · have hkn : k = n := by omega
      have HKN := Lib.hid hkn
      clear hkn
      go_wp2_with fail
      go_ret
      exact ⟨by rw [HKN.out, HTN.out]; rfl, HB2.out⟩
end Go.Proofs.Ytloggipjmaiegaa
