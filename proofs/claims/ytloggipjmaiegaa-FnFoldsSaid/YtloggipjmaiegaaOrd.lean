/-
  Indices in the order of a number: 'orderBy' at a closure that folds a curve.
-/
import Derived.Test.YtloggipjmaiegaaSrt
namespace Go.Proofs.Ytloggipjmaiegaa
open Go.RowKit
set_option maxRecDepth 100000
set_option linter.unusedVariables false
set_option maxHeartbeats 1000000 in
theorem insSort_none (a : Option Addr) (c : Nat) (fv : Value) (w : World) : Calls Try.prog 300 #[.slice a 0 c, .int .i64 0, .int .i64 0, fv] w fun e w' => e = .returned (.tuple #[]) ∧ w = w' := by
  go_enter Try.func300, Try.ntmps300
  go_wp2_with fail
  go_loopw [8] (fun i wr => i = .int .i64 1 ∧ w = wr) (fun _ _ => 0)
  case atStart => exact ⟨rfl, rfl⟩
  case round =>
    obtain ⟨rfl, rfl⟩ := hrel
    go_wp2_with fail
    go_end0
    exact ⟨rfl, rfl⟩
set_option maxHeartbeats 1000000 in
theorem stable_none (a : Option Addr) (c : Nat) (fv : Value) (w : World) : Calls Try.prog 293 #[.slice a 0 c, .int .i64 0, fv] w fun e w' => e = .returned (.tuple #[]) ∧ w = w' := by
  go_enter Try.func293, Try.ntmps293
  go_wp2_with fail
  go_loopw [7, 8] (fun p q wr => p = .int .i64 0 ∧ q = .int .i64 20 ∧ w = wr) (fun _ _ _ => 0)
  case atStart => exact ⟨rfl, rfl, rfl⟩
  case round =>
    obtain ⟨rfl, rfl, rfl⟩ := hrel
    go_wp2_with fail
    refine (insSort_none a c fv w).mono ?_
    rintro e w1 ⟨rfl, rfl⟩
    go_wp2_with fail
    go_loopw [6] (fun p wr => p = .int .i64 20 ∧ w = wr) (fun _ _ => 0)
    case atStart => exact ⟨rfl, rfl⟩
    case round =>
      obtain ⟨rfl, rfl⟩ := hrel
      go_wp2_with fail
      go_end0
      exact ⟨rfl, rfl⟩
set_option maxHeartbeats 1000000 in
theorem stable_some (key : Int → Int) (X : List Int) (g n c B0 gb : Nat) (w : World) (hB0 : B0 ≤ w.heap.size) (h1 : 1 ≤ n) (hn : n ≤ 19) (hX : X.Pairwise (· < ·)) (ho : Ow eI 1 w B0 2 (.slice (some ⟨g, 0, none⟩) n c) n X) (hc : CmpOk key X gb B0 w) :
    Calls Try.prog 293 #[.slice (some ⟨g, 0, none⟩) n c, .int .i64 n, .func (.func 280) #[] #[.pointer (some ⟨gb, 0, none⟩)]] w fun e w' => e = .returned (.tuple #[]) ∧ ∃ L, SrtOf key X L ∧ Ow eI 1 w' B0 2 (.slice (some ⟨g, 0, none⟩) n c) n L ∧ Below B0 w w' := by
  have HI := Lib.hid (insSort_any key X g n c B0 gb w hB0 h1 (by omega) hX ho hc)
  have d0 : decide ((20 : Int) ≤ (n : Int)) = false := by simp; omega
  have d1 : decide (20 ≤ n) = false := by simp; omega
  have d2 : decide ((20 : Int) < (n : Int)) = false := by simp; omega
  have d3 : decide (20 < n) = false := by simp; omega
  clear ho hc hX
  go_enter Try.func293, Try.ntmps293
  go_wp2_with fail
  go_loopw [7, 8] (fun p q wr => p = .int .i64 0 ∧ q = .int .i64 20 ∧ w = wr) (fun _ _ _ => 0)
  case atStart => exact ⟨rfl, rfl, rfl⟩
  case round =>
    obtain ⟨rfl, rfl, rfl⟩ := hrel
    go_wp2_with fail
    refine (HI.out).mono ?_
    rintro e w1 ⟨rfl, L, hs, ho, hb⟩
    have HS := Lib.hid hs
    have HO := Lib.hid ho
    have HB := Lib.hid hb
    clear hs ho hb HI
    go_wp2_with fail
    go_loopw [6] (fun p wr => p = .int .i64 20 ∧ w1 = wr) (fun _ _ => 0)
    case atStart => exact ⟨rfl, rfl⟩
    case round =>
      obtain ⟨rfl, rfl⟩ := hrel
      go_wp2_with fail
      go_end0
      exact ⟨rfl, L, HS.out, HO.out, HB.out⟩
set_option maxHeartbeats 1000000 in
theorem SortStable_any (key : Int → Int) (X : List Int) (a : Option Addr) (n c B0 gb : Nat) (w : World) (hB0 : B0 ≤ w.heap.size) (hn : n ≤ 19) (hX : X.Pairwise (· < ·)) (ho : Ow eI 1 w B0 2 (.slice a n c) n X) (hc : CmpOk key X gb B0 w) :
    Calls Try.prog 279 #[.slice a n c, .func (.func 280) #[] #[.pointer (some ⟨gb, 0, none⟩)]] w fun e w' => e = .returned (.tuple #[]) ∧ ∃ L, SrtOf key X L ∧ Ow eI 1 w' B0 2 (.slice a n c) n L ∧ Below B0 w w' := by
  by_cases h0 : n = 0
  · subst h0
    have hx0 : X = [] := List.eq_nil_of_length_eq_zero (ho.len eI_len (by decide))
    subst hx0
    have HO := Lib.hid ho
    clear ho hc hX
    go_enter Try.func279, Try.ntmps279
    go_wp2_with fail
    refine (stable_none a c _ w).mono ?_
    rintro e w1 ⟨rfl, rfl⟩
    go_wp2_with fail
    go_end0
    exact ⟨rfl, [], ⟨List.Perm.refl _, List.Pairwise.nil⟩, HO.out, Below.refl _ _⟩
  · obtain ⟨g, rfl, _, _⟩ := ho.at_ (by omega)
    have HI := Lib.hid (stable_some key X g n c B0 gb w hB0 (by omega) hn hX ho hc)
    clear ho hc hX
    go_enter Try.func279, Try.ntmps279
    go_wp2_with fail
    refine (HI.out).mono ?_
    rintro e w1 ⟨rfl, L, hs, ho, hb⟩
    have HS := Lib.hid hs
    have HO := Lib.hid ho
    have HB := Lib.hid hb
    clear hs ho hb HI
    go_wp2_with fail
    go_end0
    exact ⟨rfl, L, HS.out, HO.out, HB.out⟩
/-- what is asked of the number -/
def NumOk (key : Int → Int) (n ge gc B : Nat) (w : World) : Prop :=
  ∀ (i : Nat) (w' : World), i < n → Below B w w' → Calls Try.prog 238 #[.int .i64 i, .pointer (some ⟨ge, 0, none⟩), .pointer (some ⟨gc, 0, none⟩)] w' fun e w'' => e = .returned (.int .i64 (key i)) ∧ Below w'.heap.size w' w''
def numV (ge gc : Nat) : Value := .func (.func 238) #[] #[.pointer (some ⟨ge, 0, none⟩), .pointer (some ⟨gc, 0, none⟩)]
set_option maxHeartbeats 2000000 in
theorem ordCmp_any (key : Int → Int) (X : List Int) (n gb ge gc B : Nat) (w : World) (hX : ∀ x ∈ X, 0 ≤ x ∧ x < (n : Int)) (hB : B ≤ w.heap.size) (hgb : gb < B) (hc : NumOk key n ge gc B w) (hx : CAt w gb #[.func (.func 238) #[] #[.pointer (some ⟨ge, 0, none⟩), .pointer (some ⟨gc, 0, none⟩)]] 136) : CmpOk key X gb B w := by
  intro i j w0 hi hj hb
  obtain ⟨p, rfl⟩ : ∃ p : Nat, i = p := ⟨i.toNat, by have := hX i hi; omega⟩
  obtain ⟨q, rfl⟩ : ∃ q : Nat, j = q := ⟨j.toNat, by have := hX j hj; omega⟩
  have hp : p < n := by have := hX _ hi; omega
  have hq : q < n := by have := hX _ hj; omega
  have hsz : B ≤ w0.heap.size := Nat.le_trans hB hb.size
  have HX0 := Lib.hid (hx.belowN hb hgb)
  have HD : Hid (Below w0.heap.size w0 w0.drew) := Lib.hid (Below.refl _ _).drew
  have HBD : Hid (Below B w w0.drew) := Lib.hid hb.drew
  have HC1 := Lib.hid (hc p w0.drew hp HBD.out)
  have HC2 : Hid (∀ wz, Below w0.heap.size w0 wz → Calls Try.prog 238 #[.int .i64 q, .pointer (some ⟨ge, 0, none⟩), .pointer (some ⟨gc, 0, none⟩)] wz fun e w'' => e = .returned (.int .i64 (key q)) ∧ Below wz.heap.size wz w'') := Lib.hid fun wz hz => hc q wz hq (hb.trans (hz.mono hsz))
  have c0 : w0.cell? ⟨gb, 0, none⟩ = some (.func (.func 238) #[] #[.pointer (some ⟨ge, 0, none⟩), .pointer (some ⟨gc, 0, none⟩)]) := HX0.out.cell 0
  have HS : Hid (∀ wz, Below w0.heap.size w0 wz → wz.cell? ⟨gb, 0, none⟩ = some (.func (.func 238) #[] #[.pointer (some ⟨ge, 0, none⟩), .pointer (some ⟨gc, 0, none⟩)])) := Lib.hid fun wz hz => (hz.cell (lt_of_cell c0)).trans c0
  obtain ⟨kp, hkp⟩ : ∃ z, key p = z := ⟨_, rfl⟩
  obtain ⟨kq, hkq⟩ : ∃ z, key q = z := ⟨_, rfl⟩
  rw [hkp] at HC1 ⊢
  rw [hkq] at HC2 ⊢
  clear hc hx hb hi hj hX hkp hkq c0 HX0 HBD
  by_cases h1 : kp < kq
  · rw [if_pos h1]
    have d0 : (kp != kq) = true := by rw [bne_iff_ne]; omega
    have d1 : decide (kp < kq) = true := decide_eq_true h1
    go_enter Try.func280, Try.ntmps280
    go_upto_region 1 with (fail)
    go_region_held3 (fun wz : World => wz.cell? ⟨gb, 0, none⟩ = some (.func (.func 238) #[] #[.pointer (some ⟨ge, 0, none⟩), .pointer (some ⟨gc, 0, none⟩)])) (first | (go_keep; done) | exact HS.out _ HD.out | exact HS.out _ HD1.out | exact HS.out _ HD2.out | fail) (first | (go_at_call 238; (with_reducible refine (HC1.out).mono ?_); rintro e w1 ⟨rfl, hb1⟩; have HD1 : Hid (Below w0.heap.size w0 w1) := Lib.hid (HD.out.trans (hb1.mono HD.out.size)); clear hb1) | (go_at_call 238; (with_reducible refine (HC2.out _ HD1.out).mono ?_); rintro e w2 ⟨rfl, hb2⟩; have HD2 : Hid (Below w0.heap.size w0 w2) := Lib.hid (HD1.out.trans (hb2.mono HD1.out.size)); clear hb2))
    go_wp2_with fail
    go_ret
    exact ⟨rfl, HD2.out⟩
  · rw [if_neg h1]
    by_cases h2 : kq < kp
    · rw [if_pos h2]
      have d0 : (kp != kq) = true := by rw [bne_iff_ne]; omega
      have d1 : decide (kp < kq) = false := decide_eq_false h1
      go_enter Try.func280, Try.ntmps280
      go_upto_region 1 with (fail)
      go_region_held3 (fun wz : World => wz.cell? ⟨gb, 0, none⟩ = some (.func (.func 238) #[] #[.pointer (some ⟨ge, 0, none⟩), .pointer (some ⟨gc, 0, none⟩)])) (first | (go_keep; done) | exact HS.out _ HD.out | exact HS.out _ HD1.out | exact HS.out _ HD2.out | fail) (first | (go_at_call 238; (with_reducible refine (HC1.out).mono ?_); rintro e w1 ⟨rfl, hb1⟩; have HD1 : Hid (Below w0.heap.size w0 w1) := Lib.hid (HD.out.trans (hb1.mono HD.out.size)); clear hb1) | (go_at_call 238; (with_reducible refine (HC2.out _ HD1.out).mono ?_); rintro e w2 ⟨rfl, hb2⟩; have HD2 : Hid (Below w0.heap.size w0 w2) := Lib.hid (HD1.out.trans (hb2.mono HD1.out.size)); clear hb2))
      go_wp2_with fail
      go_ret
      exact ⟨rfl, HD2.out⟩
    · rw [if_neg h2]
      have h3 : kp = kq := by omega
      have d0 : (kp != kq) = false := by rw [bne_eq_false_iff_eq]; exact h3
      subst h3
      go_enter Try.func280, Try.ntmps280
      go_upto_region 1 with (fail)
      go_region_held3 (fun wz : World => wz.cell? ⟨gb, 0, none⟩ = some (.func (.func 238) #[] #[.pointer (some ⟨ge, 0, none⟩), .pointer (some ⟨gc, 0, none⟩)])) (first | (go_keep; done) | exact HS.out _ HD.out | exact HS.out _ HD1.out | exact HS.out _ HD2.out | fail) (first | (go_at_call 238; (with_reducible refine (HC1.out).mono ?_); rintro e w1 ⟨rfl, hb1⟩; have HD1 : Hid (Below w0.heap.size w0 w1) := Lib.hid (HD.out.trans (hb1.mono HD.out.size)); clear hb1) | (go_at_call 238; (with_reducible refine (HC2.out _ HD1.out).mono ?_); rintro e w2 ⟨rfl, hb2⟩; have HD2 : Hid (Below w0.heap.size w0 w2) := Lib.hid (HD1.out.trans (hb2.mono HD1.out.size)); clear hb2))
      go_wp2_with fail
      go_ret
      exact ⟨rfl, HD2.out⟩
theorem whereT (n : Nat) : whereL n (fun _ => true) = (List.range n).map fun (i : Nat) => (i : Int) := by
  unfold whereL
  rw [List.filter_eq_self.2 fun _ _ => rfl]
theorem whereT_len (n : Nat) : (whereL n fun _ => true).length = n := by simp [whereT]
theorem whereT_mem (n : Nat) : ∀ x ∈ whereL n (fun _ => true), 0 ≤ x ∧ x < (n : Int) := fun x hx => by
  rw [whereT] at hx
  obtain ⟨i, hi, rfl⟩ := List.mem_map.1 hx
  have := List.mem_range.1 hi
  omega
theorem whereT_pw (n : Nat) : (whereL n fun _ => true).Pairwise (· < ·) := by
  rw [whereT, List.pairwise_map]
  exact List.pairwise_lt_range.imp fun h => by omega
end Go.Proofs.Ytloggipjmaiegaa
