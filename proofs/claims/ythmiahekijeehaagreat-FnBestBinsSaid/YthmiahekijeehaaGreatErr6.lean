/-
  Squares of errors, means without one: the program's and the reference's.
-/
import Derived.Test.YthmiahekijeehaaGreatErr0
import Derived.Test.YthmiahekijeehaaGreatMM
import Derived.Test.YthmiahekijeehaaGreatFr
namespace Go.Proofs.YthmiahekijeehaaGreat
open Go.RowKit
set_option maxRecDepth 100000
theorem countI_any (a : Option Addr) (n c : Nat) (w : World) : Calls Tryz.prog 51 #[.slice a n c] w fun e w' => e = .returned (.int .i64 n) ∧ w = w' := by
  go_enter Tryz.func51, Tryz.ntmps51
  go_wp2_with fail
  go_ret
  exact ⟨rfl, rfl⟩
set_option maxHeartbeats 1000000 in
theorem floorDivG (a b : Int) (w : World) (hb : 1 ≤ b) (hb2 : b ≤ 1000000000000) (h0 : -1000000000000000000 ≤ a) (h1 : a ≤ 1000000000000000000) : Calls Tryz.prog 99 #[.int .i64 a, .int .i64 b] w fun e w' => e = .returned (.int .i64 (a / b)) ∧ w = w' := by
  have hz : b ≠ 0 := by omega
  by_cases hn : 0 ≤ a
  · obtain ⟨N, rfl⟩ := Int.eq_ofNat_of_zero_le hn
    have hq := nat_ediv_le N b hb
    have hr := Int.emod_nonneg (N : Int) hz
    have e0 : Int.tdiv (N : Int) b = (N : Int) / b := Int.tdiv_eq_ediv_of_nonneg (by omega)
    have e1 : Int.tmod (N : Int) b = (N : Int) % b := Int.tmod_eq_emod_of_nonneg (by omega)
    have e2 : IntKind.i64.wrap ((N : Int) / b) = (N : Int) / b := IntWalk.i64_in _ (by omega)
    have d0 : ¬ (N : Int) % b < 0 := by omega
    have d1 : decide ((N : Int) % b < 0) = false := by simp; omega
    go_enter Tryz.func99, Tryz.ntmps99
    go_wp2
    go_ret
    exact ⟨rfl, rfl⟩
  · obtain ⟨N, hN⟩ : ∃ N : Nat, a = -(N : Int) := ⟨a.natAbs, by omega⟩
    subst hN
    have hq := nat_ediv_le N b hb
    have hr := Int.emod_nonneg (N : Int) hz
    have e0 : Int.tdiv (-(N : Int)) b = -((N : Int) / b) := by rw [Int.neg_tdiv, Int.tdiv_eq_ediv_of_nonneg (by omega)]
    have e1 : Int.tmod (-(N : Int)) b = -((N : Int) % b) := by rw [Int.neg_tmod, Int.tmod_eq_emod_of_nonneg (by omega)]
    by_cases hm : 0 < (N : Int) % b
    · have hv := neg_ediv_pos N b hb hm
      rw [hv]
      have e2 : IntKind.i64.wrap (-((N : Int) / b)) = -((N : Int) / b) := IntWalk.i64_in _ (by omega)
      have e3 : IntKind.i64.wrap (-((N : Int) / b) - 1) = -((N : Int) / b) - 1 := IntWalk.i64_in _ (by omega)
      have d0 : -((N : Int) % b) < 0 := by omega
      have d1 : decide (-((N : Int) % b) < 0) = true := by simp; omega
      clear hv
      go_enter Tryz.func99, Tryz.ntmps99
      go_wp2
      go_ret
      exact ⟨rfl, rfl⟩
    · have hv := neg_ediv_zero N b hb hm
      rw [hv]
      have e2 : IntKind.i64.wrap (-((N : Int) / b)) = -((N : Int) / b) := IntWalk.i64_in _ (by omega)
      have d0 : ¬ -((N : Int) % b) < 0 := by omega
      have d1 : decide (-((N : Int) % b) < 0) = false := by simp; omega
      clear hv
      go_enter Tryz.func99, Tryz.ntmps99
      go_wp2
      go_ret
      exact ⟨rfl, rfl⟩
set_option maxHeartbeats 1000000 in
theorem l02FloorG (a b : Int) (w : World) (hb : 1 ≤ b) (hb2 : b ≤ 1000000000000) (h0 : -1000000000000000000 ≤ a) (h1 : a ≤ 1000000000000000000) : Calls Tryz.prog 97 #[.int .i64 a, .int .i64 b] w fun e w' => e = .returned (.int .i64 (a / b)) ∧ w = w' := by
  have hz : b ≠ 0 := by omega
  by_cases hn : 0 ≤ a
  · obtain ⟨N, rfl⟩ := Int.eq_ofNat_of_zero_le hn
    have hq := nat_ediv_le N b hb
    have hr := Int.emod_nonneg (N : Int) hz
    have e0 : Int.tdiv (N : Int) b = (N : Int) / b := Int.tdiv_eq_ediv_of_nonneg (by omega)
    have e1 : Int.tmod (N : Int) b = (N : Int) % b := Int.tmod_eq_emod_of_nonneg (by omega)
    have e2 : IntKind.i64.wrap ((N : Int) / b) = (N : Int) / b := IntWalk.i64_in _ (by omega)
    have d0 : ¬ (N : Int) % b < 0 := by omega
    have d1 : decide ((N : Int) % b < 0) = false := by simp; omega
    go_enter Tryz.func97, Tryz.ntmps97
    go_wp2
    go_ret
    exact ⟨rfl, rfl⟩
  · obtain ⟨N, hN⟩ : ∃ N : Nat, a = -(N : Int) := ⟨a.natAbs, by omega⟩
    subst hN
    have hq := nat_ediv_le N b hb
    have hr := Int.emod_nonneg (N : Int) hz
    have e0 : Int.tdiv (-(N : Int)) b = -((N : Int) / b) := by rw [Int.neg_tdiv, Int.tdiv_eq_ediv_of_nonneg (by omega)]
    have e1 : Int.tmod (-(N : Int)) b = -((N : Int) % b) := by rw [Int.neg_tmod, Int.tmod_eq_emod_of_nonneg (by omega)]
    by_cases hm : 0 < (N : Int) % b
    · have hv := neg_ediv_pos N b hb hm
      rw [hv]
      have e2 : IntKind.i64.wrap (-((N : Int) / b)) = -((N : Int) / b) := IntWalk.i64_in _ (by omega)
      have e3 : IntKind.i64.wrap (-((N : Int) / b) - 1) = -((N : Int) / b) - 1 := IntWalk.i64_in _ (by omega)
      have d0 : -((N : Int) % b) < 0 := by omega
      have d1 : decide (-((N : Int) % b) < 0) = true := by simp; omega
      clear hv
      go_enter Tryz.func97, Tryz.ntmps97
      go_wp2
      go_ret
      exact ⟨rfl, rfl⟩
    · have hv := neg_ediv_zero N b hb hm
      rw [hv]
      have e2 : IntKind.i64.wrap (-((N : Int) / b)) = -((N : Int) / b) := IntWalk.i64_in _ (by omega)
      have d0 : ¬ -((N : Int) % b) < 0 := by omega
      have d1 : decide (-((N : Int) % b) < 0) = false := by simp; omega
      clear hv
      go_enter Tryz.func97, Tryz.ntmps97
      go_wp2
      go_ret
      exact ⟨rfl, rfl⟩
def nearF (x d : Int) : Int := (2 * x + d) / (2 * d)
theorem nearF_eq (x d : Int) (hd : 0 < d) : nearF x d = if d - (x - x / d * d) ≤ x - x / d * d then x / d + 1 else x / d := by
  have h1 := Int.emod_nonneg x (show d ≠ 0 by omega)
  have h2 := Int.emod_lt_of_pos x hd
  have h3 := Int.mul_ediv_add_emod x d
  have h4 : d * (x / d) = x / d * d := Int.mul_comm _ _
  unfold nearF
  have e : 2 * x + d = (2 * (x % d) + d) + x / d * (2 * d) := by grind
  rw [e, Int.add_mul_ediv_right _ _ (by omega)]
  split
  · rw [show (2 * (x % d) + d) / (2 * d) = 1 by
      have : 2 * (x % d) + d = (2 * (x % d) - d) + 1 * (2 * d) := by omega
      rw [this, Int.add_mul_ediv_right _ _ (by omega), Int.ediv_eq_zero_of_lt (by omega) (by omega)]
      rfl]
    omega
  · rw [Int.ediv_eq_zero_of_lt (by omega) (by omega)]
    omega
theorem ediv_bd (x d : Int) (hd : 0 < d) (B : Int) (h0 : -B ≤ x) (h1 : x ≤ B) (hB : 0 ≤ B) : -B ≤ x / d ∧ x / d ≤ B := by
  constructor
  · have h : -B ≤ -B / d := by
      have := Int.ediv_le_ediv hd (show -B * d ≤ -B from by
        have : B * 1 ≤ B * d := Int.mul_le_mul_of_nonneg_left (by omega) hB
        rw [Int.neg_mul]; omega)
      rw [Int.mul_ediv_cancel _ (by omega)] at this
      exact this
    exact Int.le_trans h (Int.ediv_le_ediv hd h0)
  · exact Int.le_trans (Int.ediv_le_ediv hd h1) (Int.ediv_le_self _ hB)
def listC (ls : List Int) : Int := if magsB ls = true then 0 else 2
theorem magsB_long {ls : List Int} (h : ¬ ls.length ≤ 100) : magsB ls = false := by simp [magsB, h]
theorem magsB_bad {ls : List Int} {k : Nat} {x : Int} (hx : ls[k]? = some x) (h : inB x (-2000) 20000 = false) : magsB ls = false := by
  have hm := List.mem_of_getElem? hx
  cases hq : magsB ls with
  | false => rfl
  | true =>
    simp only [magsB, Bool.and_eq_true, List.all_eq_true] at hq
    rw [hq.2 x hm] at h; cases h
theorem magsB_ok {ls : List Int} (h1 : ls.length ≤ 100) (h2 : ∀ i, i < ls.length → ∀ x, ls[i]? = some x → inB x (-2000) 20000 = true) : magsB ls = true := by
  simp only [magsB, Bool.and_eq_true, List.all_eq_true, decide_eq_true_eq]
  refine ⟨h1, fun x hx => ?_⟩
  obtain ⟨i, hi, rfl⟩ := List.getElem_of_mem hx
  exact h2 i hi _ (List.getElem?_eq_getElem hi)
theorem magsB_parts {ls : List Int} (h : magsB ls = true) : ls.length ≤ 100 ∧ ∀ x ∈ ls, -2000 ≤ x ∧ x ≤ 20000 := by
  simp only [magsB, Bool.and_eq_true, List.all_eq_true, decide_eq_true_eq] at h
  exact ⟨h.1, fun x hx => inB_iff.1 (h.2 x hx)⟩
theorem stepI {ls : List Int} {R : Int → Prop} {k : Nat} {a : Int} (h : ∀ i, i < k → ∀ x, ls[i]? = some x → R x) (hx : ls[k]? = some a) (ha : R a) : ∀ i, i < k + 1 → ∀ x, ls[i]? = some x → R x := fun i hi x hix => by
  by_cases h1 : i = k
  · subst h1
    rw [hx] at hix; cases hix
    exact ha
  · exact h i (by omega) x hix
open Go.RowKit
set_option maxRecDepth 100000
theorem mul_bd {a b A B : Int} (h1 : -A ≤ a) (h2 : a ≤ A) (h3 : -B ≤ b) (h4 : b ≤ B) : -(A * B) ≤ a * b ∧ a * b ≤ A * B := by
  have hA : a.natAbs ≤ A.natAbs := by omega
  have hB : b.natAbs ≤ B.natAbs := by omega
  have h := Nat.mul_le_mul hA hB
  rw [← Int.natAbs_mul, ← Int.natAbs_mul] at h
  have hAB : 0 ≤ A * B := Int.mul_nonneg (by omega) (by omega)
  omega
theorem sq_bd {a A : Int} (h1 : -A ≤ a) (h2 : a ≤ A) : 0 ≤ a * a ∧ a * a ≤ A * A := by
  have h := mul_bd h1 h2 h1 h2
  exact ⟨by have := Int.natAbs_mul_self (a := a); omega, h.2⟩
/-- the squares of the differences of x from the first k numbers -/
def sqI (x : Int) (l : List Int) : Nat → Int
  | 0 => 0
  | k + 1 => sqI x l k + (match l[k]? with | some y => (x - y) * (x - y) | none => 0)
theorem sqI_succ {x y : Int} {l : List Int} {k : Nat} (h : l[k]? = some y) : sqI x l (k + 1) = sqI x l k + (x - y) * (x - y) := by simp [sqI, h]
def sqN (l : List Int) : Nat → Int
  | 0 => 0
  | k + 1 => sqN l k + (match l[k]? with | some x => sqI x l k | none => 0)
theorem sqN_succ {x : Int} {l : List Int} {k : Nat} (h : l[k]? = some x) : sqN l (k + 1) = sqN l k + sqI x l k := by simp [sqN, h]
theorem sqI_bd {x : Int} {l : List Int} (hx : -20000 ≤ x ∧ x ≤ 20000) (hl : ∀ y ∈ l, -20000 ≤ y ∧ y ≤ 20000) : ∀ k, 0 ≤ sqI x l k ∧ sqI x l k ≤ (k : Int) * 1600000000
  | 0 => by simp [sqI]
  | k + 1 => by
    have ih := sqI_bd hx hl k
    unfold sqI
    cases h : l[k]? with
    | none => simp only; omega
    | some y =>
      have hy := hl y (List.mem_of_getElem? h)
      have h2 := sq_bd (a := x - y) (A := 40000) (by omega) (by omega)
      simp only
      omega
theorem sqN_bd {l : List Int} (hl : ∀ y ∈ l, -20000 ≤ y ∧ y ≤ 20000) : ∀ k, 0 ≤ sqN l k ∧ sqN l k ≤ (k : Int) * ((k : Int) * 1600000000)
  | 0 => by simp [sqN]
  | k + 1 => by
    have ih := sqN_bd hl k
    have e : ((k + 1 : Nat) : Int) * (((k + 1 : Nat) : Int) * 1600000000) = (k : Int) * ((k : Int) * 1600000000) + 2 * ((k : Int) * 1600000000) + 1600000000 := by
      rw [show ((k + 1 : Nat) : Int) = (k : Int) + 1 by omega]; grind
    unfold sqN
    rw [e]
    cases h : l[k]? with
    | none => simp only; omega
    | some x =>
      have h2 := sqI_bd (hl x (List.mem_of_getElem? h)) hl k
      simp only
      omega
theorem sqN_in {l : List Int} (hl : ∀ y ∈ l, -20000 ≤ y ∧ y ≤ 20000) (k : Nat) (hk : k ≤ 200) : 0 ≤ sqN l k ∧ sqN l k ≤ 64000000000000 := by
  have h := sqN_bd hl k
  have h2 : (k : Int) * ((k : Int) * 1600000000) ≤ 200 * (200 * 1600000000) := by
    have a := mul_bd (a := (k : Int)) (b := (k : Int) * 1600000000) (A := 200) (B := 200 * 1600000000) (by omega) (by omega) (by omega) (by omega)
    exact a.2
  omega
theorem sqI_in {x : Int} {l : List Int} (hx : -20000 ≤ x ∧ x ≤ 20000) (hl : ∀ y ∈ l, -20000 ≤ y ∧ y ≤ 20000) (k : Nat) (hk : k ≤ 200) : 0 ≤ sqI x l k ∧ sqI x l k ≤ 320000000000 := by
  have h := sqI_bd hx hl k
  omega
set_option maxHeartbeats 4000000 in
theorem pairSq_any (ls : List Int) (a : Option Addr) (n c : Nat) (w : World) (hn : n ≤ 200) (hl : ls.length = n) (hr : Rd eI 1 w a ls) (hb : ∀ y ∈ ls, -20000 ≤ y ∧ y ≤ 20000) (hcap : n ≤ c) : Calls Tryz.prog 50 #[.slice a n c] w fun e w' => e = .returned (.int .i64 (sqN ls ls.length)) ∧ Below w.heap.size w w' := by
  have HL := Lib.hid hl
  have HR := Lib.hid hr
  have HBD := Lib.hid hb
  have HTN : Hid (sqN ls n = sqN ls ls.length) := Lib.hid (by rw [hl])
  clear hl hr hb
  go_enter Tryz.func50, Tryz.ntmps50
  go_wp2_with fail
  go_loopw [3, 10] (fun sm i wr => ∃ (k : Nat), k ≤ n ∧ i = .int .i64 k ∧ sm = .int .i64 (sqN ls k) ∧ Hid (Below w.heap.size w wr)) (fun _ i _ => n - (intOf i).toNat)
  case atStart => exact ⟨0, Nat.zero_le _, rfl, rfl, Lib.hid (Below.refl _ _)⟩
  case round =>
    obtain ⟨k, hk, rfl, rfl, HBk⟩ := hrel
    obtain ⟨wr1, hwr⟩ : ∃ wx, wx = wr := ⟨_, rfl⟩
    subst hwr
    have HB2 := HBk
    clear HBk
    by_cases hlt : k < n
    · obtain ⟨x, hx⟩ : ∃ z, (ls)[k]? = some z := ⟨_, List.getElem?_eq_getElem (by rw [HL.out]; omega)⟩
      have HXx := Lib.hid hx
      clear hx
      have hxb := HBD.out x (List.mem_of_getElem? HXx.out)
      obtain ⟨b3, o4, hab, HC5⟩ := HR.out.addr1 (by rw [HL.out]; omega) (fun _ => rfl)
      have HC5 := Lib.hid HC5
      subst hab
      have c6 : wr1.cell? ⟨b3, o4 + k, none⟩ = some (.int .i64 x) := HC5.out k x HXx.out wr1 HB2.out
      have j7 : (0 : Int) ≤ (k : Nat) := by omega
      have j8 : ((k : Nat) : Int) < n := by omega
      have j9 : ((k : Nat) : Int) ≤ (c : Nat) := by omega
      have j10 : k ≤ c := by omega
      go_wp2_with fail
      go_loopw [3, 19] (fun sm j wr => ∃ (q : Nat), q ≤ k ∧ j = .int .i64 q ∧ sm = .int .i64 (sqN ls k + sqI x ls q) ∧ Hid (Below w.heap.size w wr)) (fun _ j _ => k - (intOf j).toNat)
      case atStart => exact ⟨0, Nat.zero_le _, rfl, by rw [show sqI x ls 0 = 0 from rfl, Int.add_zero], HB2⟩
      case round =>
        obtain ⟨q, hq, rfl, rfl, HBk⟩ := hrel
        obtain ⟨wr11, hwr⟩ : ∃ wx, wx = wr := ⟨_, rfl⟩
        subst hwr
        have HB12 := HBk
        clear HBk
        by_cases hlt2 : q < k
        · obtain ⟨y, hx⟩ : ∃ z, (ls)[q]? = some z := ⟨_, List.getElem?_eq_getElem (by rw [HL.out]; omega)⟩
          have HXy := Lib.hid hx
          clear hx
          have hyb := HBD.out y (List.mem_of_getElem? HXy.out)
          have hsq := sq_bd (a := x - y) (A := 40000) (by omega) (by omega)
          have hqb := sqI_in hxb HBD.out q (by omega)
          have hkb := sqN_in HBD.out k (by omega)
          have HSI := Lib.hid (sqI_succ (x := x) HXy.out)
          have c13 : wr11.cell? ⟨b3, o4 + q, none⟩ = some (.int .i64 y) := HC5.out q y HXy.out wr11 HB12.out
          have j14 : (0 : Int) ≤ (q : Nat) := by omega
          have j15 : ((q : Nat) : Int) < k := by omega
          have i16 : IntKind.i64.wrap (x - y) = x - y := IntWalk.i64_in _ (by omega)
          have i17 : IntKind.i64.wrap ((x - y) * (x - y)) = (x - y) * (x - y) := IntWalk.i64_in _ (by omega)
          have i18 : IntKind.i64.wrap ((sqN ls k + sqI x ls q) + ((x - y) * (x - y))) = (sqN ls k + sqI x ls q) + ((x - y) * (x - y)) := IntWalk.i64_in _ (by omega)
          have i19 : IntKind.i64.wrap ((q : Int) + 1) = (q : Int) + 1 := IntWalk.i64_in _ (by omega)
          go_wp2_with fail
          go_roundw
          case rel => exact ⟨q + 1, by omega, by go_num, by rw [HSI.out, ← Int.add_assoc], HB12⟩
          case measure => simp [intOf]; omega
        · have hqk : q = k := by omega
          have HSN : Hid (sqN ls (k + 1) = sqN ls k + sqI x ls q) := Lib.hid (by rw [sqN_succ HXx.out, hqk])
          clear hqk
          have i20 : IntKind.i64.wrap ((k : Int) + 1) = (k : Int) + 1 := IntWalk.i64_in _ (by omega)
          go_wp2_with fail
          go_roundw
          case rel => exact ⟨k + 1, by omega, by go_num, by rw [HSN.out], HB12⟩
          case measure => simp [intOf]; omega
    · have hkn : k = n := by omega
      have HKN := Lib.hid hkn
      clear hkn
      go_wp2_with fail
      go_ret
      exact ⟨by rw [HKN.out, HTN.out]; rfl, HB2.out⟩
open Go.RowKit
set_option maxRecDepth 100000
set_option linter.unusedVariables false
def wtsB (ms ws : List Int) : Bool := decide (ws.length = ms.length) && ws.all fun x => inB x 0 100
theorem wtsB_parts {ms ws : List Int} (h : wtsB ms ws = true) : ws.length = ms.length ∧ ∀ x ∈ ws, 0 ≤ x ∧ x ≤ 100 := by
  simp only [wtsB, Bool.and_eq_true, List.all_eq_true, decide_eq_true_eq] at h
  exact ⟨h.1, fun x hx => inB_iff.1 (h.2 x hx)⟩
theorem wtsB_bad {ms ws : List Int} {k : Nat} {x : Int} (hx : ws[k]? = some x) (h : inB x 0 100 = false) : wtsB ms ws = false := by
  cases hq : wtsB ms ws with
  | false => rfl
  | true =>
    simp only [wtsB, Bool.and_eq_true, List.all_eq_true] at hq
    rw [hq.2 x (List.mem_of_getElem? hx)] at h; cases h
theorem wtsB_len {ms ws : List Int} (h : ¬ ws.length = ms.length) : wtsB ms ws = false := by simp [wtsB, h]
theorem wtsB_ok {ms ws : List Int} (h1 : ws.length = ms.length) (h2 : ∀ i, i < ws.length → ∀ x, ws[i]? = some x → inB x 0 100 = true) : wtsB ms ws = true := by
  simp only [wtsB, Bool.and_eq_true, List.all_eq_true, decide_eq_true_eq]
  refine ⟨h1, fun x hx => ?_⟩
  obtain ⟨i, hi, rfl⟩ := List.getElem_of_mem hx
  exact h2 i hi _ (List.getElem?_eq_getElem hi)
def modB (ms md : List Int) : Bool := magsB ms && (magsB md && decide (md.length = ms.length))
def modC (ms md : List Int) : Int := if modB ms md = true then 0 else 2
theorem modB_parts {ms md : List Int} (h : modB ms md = true) : magsB ms = true ∧ magsB md = true ∧ md.length = ms.length := by
  simpa [modB] using h
/-- sums of products -/
def dotN (ms ws : List Int) : Nat → Int
  | 0 => 0
  | k + 1 => dotN ms ws k + (match ms[k]?, ws[k]? with | some m, some x => m * x | _, _ => 0)
theorem dotN_succ {ms ws : List Int} {k : Nat} {m x : Int} (h : ms[k]? = some m) (h2 : ws[k]? = some x) : dotN ms ws (k + 1) = dotN ms ws k + m * x := by simp [dotN, h, h2]
theorem dotN_in {ms ws : List Int} (hm : ∀ x ∈ ms, -2000 ≤ x ∧ x ≤ 20000) (hw : ∀ x ∈ ws, 0 ≤ x ∧ x ≤ 100) : ∀ k : Nat, -((k : Int) * 2000000) ≤ dotN ms ws k ∧ dotN ms ws k ≤ (k : Int) * 2000000
  | 0 => by simp [dotN]
  | k + 1 => by
    have ih := dotN_in hm hw k
    unfold dotN
    cases h : ms[k]? with
    | none => simp only; omega
    | some m =>
      cases h2 : ws[k]? with
      | none => simp only; omega
      | some x =>
        have h3 := hm m (List.mem_of_getElem? h)
        have h4 := hw x (List.mem_of_getElem? h2)
        have h5 := mul_bd (a := m) (b := x) (A := 20000) (B := 100) (by omega) (by omega) (by omega) (by omega)
        simp only
        omega
def chiN (ms md ws : List Int) : Nat → Int
  | 0 => 0
  | k + 1 => chiN ms md ws k + (match ms[k]?, md[k]?, ws[k]? with | some m, some d, some x => (m - d) * (m - d) * x | _, _, _ => 0)
theorem chiN_succ {ms md ws : List Int} {k : Nat} {m d x : Int} (h : ms[k]? = some m) (h2 : md[k]? = some d) (h3 : ws[k]? = some x) : chiN ms md ws (k + 1) = chiN ms md ws k + (m - d) * (m - d) * x := by simp [chiN, h, h2, h3]
theorem chi_one {m d x : Int} (hm : -2000 ≤ m ∧ m ≤ 20000) (hd : -2000 ≤ d ∧ d ≤ 20000) (hx : 0 ≤ x ∧ x ≤ 100) : (0 ≤ (m - d) * (m - d) ∧ (m - d) * (m - d) ≤ 484000000) ∧ 0 ≤ (m - d) * (m - d) * x ∧ (m - d) * (m - d) * x ≤ 48400000000 := by
  have h1 := sq_bd (a := m - d) (A := 22000) (by omega) (by omega)
  have h2 := mul_bd (a := (m - d) * (m - d)) (b := x) (A := 484000000) (B := 100) (by omega) (by omega) (by omega) (by omega)
  exact ⟨⟨h1.1, by omega⟩, Int.mul_nonneg h1.1 hx.1, by omega⟩
theorem chiN_in {ms md ws : List Int} (hm : ∀ x ∈ ms, -2000 ≤ x ∧ x ≤ 20000) (hd : ∀ x ∈ md, -2000 ≤ x ∧ x ≤ 20000) (hw : ∀ x ∈ ws, 0 ≤ x ∧ x ≤ 100) : ∀ k : Nat, 0 ≤ chiN ms md ws k ∧ chiN ms md ws k ≤ (k : Int) * 48400000000
  | 0 => by simp [chiN]
  | k + 1 => by
    have ih := chiN_in hm hd hw k
    unfold chiN
    split
    · rename_i m d x h1 h2 h3
      have h5 := (chi_one (hm m (List.mem_of_getElem? h1)) (hd d (List.mem_of_getElem? h2)) (hw x (List.mem_of_getElem? h3))).2
      omega
    · omega
/-- how often the sign changes, and the last difference that is not 0 -/
def sgStep (p : Int × Int) (d : Int) : Int × Int := if d = 0 then p else (if p.2 ≠ 0 ∧ ¬ (0 < d ↔ 0 < p.2) then (p.1 + 1, d) else (p.1, d))
def sgN (ms md : List Int) : Nat → Int × Int
  | 0 => (0, 0)
  | k + 1 => match ms[k]?, md[k]? with | some m, some d => sgStep (sgN ms md k) (m - d) | _, _ => sgN ms md k
theorem sgN_succ {ms md : List Int} {k : Nat} {m d : Int} (h : ms[k]? = some m) (h2 : md[k]? = some d) : sgN ms md (k + 1) = sgStep (sgN ms md k) (m - d) := by simp [sgN, h, h2]
theorem sgN_in (ms md : List Int) : ∀ k : Nat, 0 ≤ (sgN ms md k).1 ∧ (sgN ms md k).1 ≤ k
  | 0 => by simp [sgN]
  | k + 1 => by
    have ih := sgN_in ms md k
    unfold sgN
    split
    · unfold sgStep
      split
      · omega
      · split
        · simp only; omega
        · simp only; omega
    · omega
def twoC (ls : List Int) : Int := if magsB ls = true then (if ls.length < 2 then 3 else 0) else 2
theorem listC_cases (ls : List Int) : (magsB ls = true ∧ listC ls = 0) ∨ (magsB ls = false ∧ listC ls = 2) := by
  unfold listC
  cases magsB ls <;> simp
open Go.RowKit
set_option maxRecDepth 100000
set_option linter.unusedVariables false
theorem modB_of {ms md : List Int} {n n3 : Nat} (h1 : ms.length = n) (h3 : md.length = n3) (hM : magsB ms = true) (hD : magsB md = true) (hl : n3 = n) : modB ms md = true := by
  simp [modB, hM, hD, h1, h3, hl]
open Go.RowKit
set_option maxRecDepth 100000
set_option linter.unusedVariables false
theorem sumW_in (ws : List Int) (hl : ws.length ≤ 200) (h : ∀ x ∈ ws, 0 ≤ x ∧ x ≤ 100) (k : Nat) : 0 ≤ sumL (ws.take k) ∧ sumL (ws.take k) ≤ 20000 := by
  have h1 := sumL_bd (lo := 0) (hi := 100) (ws.take k) (fun x hx => h x (List.mem_of_mem_take hx))
  have h2 : (ws.take k).length ≤ 200 := by simp; omega
  omega
open Go.RowKit
set_option maxRecDepth 100000
set_option linter.unusedVariables false
theorem infoI : (Tryz.prog.info? 2).map (fun i => (i.zero, i.size, i.bytes)) = some (some (.int .i64 0), 1, 8) := by kernel_rfl
def LoP (w : World) (T : Nat) (L : List Int) (e : Ending) (w' : World) : Prop := ∃ (a' : Option Addr) (k c' : Nat), e = .returned (.tuple #[.slice a' k c', .int .i64 0]) ∧ Ow eI 1 w' w.heap.size T (.slice a' k c') k L ∧ Below w.heap.size w w'
def looL (S d : Int) (l : List Int) : List Int := l.map fun m => nearF (S - m) d
theorem looL_take {S d : Int} {l : List Int} {k : Nat} {x : Int} (h : l[k]? = some x) : looL S d (l.take (k + 1)) = looL S d (l.take k) ++ [nearF (S - x) d] := by
  rw [List.take_add_one, h]; simp [looL]
theorem twoC_cases (ls : List Int) : (magsB ls = true ∧ 2 ≤ ls.length ∧ twoC ls = 0) ∨ (magsB ls = true ∧ ls.length < 2 ∧ twoC ls = 3) ∨ (magsB ls = false ∧ twoC ls = 2) := by
  unfold twoC
  cases magsB ls
  · simp
  · by_cases h : ls.length < 2
    · simp [h]
    · simp [h]; omega
end Go.Proofs.YthmiahekijeehaaGreat
