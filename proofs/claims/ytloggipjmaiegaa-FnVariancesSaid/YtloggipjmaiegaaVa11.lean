/-
  The law on variances: plain part.
-/
import Derived.Test.YtloggipjmaiegaaVa10
import Derived.Laws.StructEq
namespace Go.Proofs.Ytloggipjmaiegaa
open Go.RowKit
set_option maxRecDepth 100000
set_option linter.unusedVariables false
set_option linter.unusedSimpArgs false
theorem guardVa (op : BinOp) (o o' : Operand) (xs ys : Array Value) (wx : World) : (eqGuard op 51 o o' (.agg xs) (.agg ys)).run Try.prog wx = .ok () wx := run_eqGuard_agg wx op _ o o' xs ys (by kernel_rfl)
theorem neqVa (x : Frac) (wx : World) : (binOp .neq 51 (.agg #[.int .i64 x.num, .int .i64 x.den]) (.agg #[.int .i64 x.num, .int .i64 x.den])).run Try.prog wx = .ok (.bool false) wx := by
  rw [run_neq_struct, run_equalIn_agg _ _ _ _ _ (by kernel_rfl) (by kernel_rfl)]
  rw [Program.fieldsOf, Try.underlying51]
  have e1 := fun w a b => run_equalIn_int (P := Try.prog) w 9998 2 .i64 .i64 a b Try.underlying2
  have p0 : ∀ (b c : Int) (w : World), (part 2 #[.int .i64 b, .int .i64 c] 0).run Try.prog w = .ok (.int .i64 b) w := by intros; kernel_rfl
  have p1 : ∀ (b c : Int) (w : World), (part 2 #[.int .i64 b, .int .i64 c] 1).run Try.prog w = .ok (.int .i64 c) w := by intros; kernel_rfl
  simp only [Op.eqFields, p0, p1, e1, Sem.run_bind, Sem.run_ite, Sem.run_pure, Result.andThen_ok, ne_eq, String.reduceEq, not_false_eq_true, if_true, beq_self_eq_true]
  rfl
theorem f6bigVa (a : Option Addr) (n c : Nat) (w : World) (d : Bool) (hd : decide (4096 < n) = d) : Calls Try.prog 29 #[.slice a n c] w fun e w' => e = .returned (.bool d) ∧ w = w' := by
  have HD := Lib.hid hd
  clear hd
  go_enter Try.func29, Try.ntmps29
  go_wp2_with fail
  go_ret
  exact ⟨by rw [← HD.out]; first | rfl | (simp; omega), rfl⟩
/-- all of the first magnitudes are equal -/
def eqB (ls : List Int) : Nat → Bool
  | 0 => true
  | k + 1 => eqB ls k && (match ls[k]?, ls[0]? with | some x, some y => x == y | _, _ => true)
theorem eqB_step {ls : List Int} {k : Nat} {x y : Int} (h : ls[k]? = some x) (h0 : ls[0]? = some y) : eqB ls (k + 1) = (eqB ls k && (x == y)) := by simp [eqB, h, h0]
theorem eqB_all {ls : List Int} {y : Int} (h0 : ls[0]? = some y) : ∀ k, k ≤ ls.length → eqB ls k = true → ∀ i, i < k → ls[i]? = some y
  | 0, _, _, i, hi => by omega
  | k + 1, hk, h, i, hi => by
    obtain ⟨x, hx⟩ : ∃ x, ls[k]? = some x := ⟨_, List.getElem?_eq_getElem (by omega)⟩
    rw [eqB_step hx h0, Bool.and_eq_true, beq_iff_eq] at h
    by_cases he : i = k
    · subst he; rw [hx, h.2]
    · exact eqB_all h0 k (by omega) h.1 i (by omega)
theorem sq_nn (x : Int) : 0 ≤ x * x := by
  rcases Int.le_total 0 x with h | h
  · exact Int.mul_nonneg h h
  · have := Int.mul_nonneg (show 0 ≤ -x by omega) (show 0 ≤ -x by omega)
    rwa [Int.neg_mul_neg] at this
theorem sqI_nn (m : Int) (l : List Int) : ∀ k, 0 ≤ sqI m l k
  | 0 => Int.le_refl _
  | k + 1 => by
    have ih := sqI_nn m l k
    unfold sqI
    split
    · rename_i y hy; have := sq_nn (m - y); omega
    · omega
theorem sqI_0 {m : Int} {l : List Int} : ∀ k, k ≤ l.length → (sqI m l k = 0 ↔ ∀ i, i < k → l[i]? = some m)
  | 0, _ => by simp [sqI]
  | k + 1, hk => by
    obtain ⟨y, hy⟩ : ∃ x, l[k]? = some x := ⟨_, List.getElem?_eq_getElem (by omega)⟩
    have ih := sqI_0 (m := m) (l := l) k (by omega)
    have h1 := sqI_nn m l k
    have h2 := sq_nn (m - y)
    rw [sqI_succ hy]
    constructor
    · intro h i hi
      have h3 : sqI m l k = 0 := by omega
      have h4 : (m - y) * (m - y) = 0 := by omega
      by_cases he : i = k
      · subst he
        rcases Int.mul_eq_zero.1 h4 with h5 | h5 <;> (rw [hy]; congr 1; omega)
      · exact ih.1 h3 i (by omega)
    · intro h
      have h3 := ih.2 fun i hi => h i (by omega)
      have h4 := h k (by omega)
      rw [hy] at h4
      have : y = m := Option.some.inj h4
      rw [h3, this]; simp
theorem sqN_nn (l : List Int) : ∀ k, 0 ≤ sqN l k
  | 0 => Int.le_refl _
  | k + 1 => by
    have ih := sqN_nn l k
    unfold sqN
    split
    · rename_i y hy; have := sqI_nn y l k; omega
    · omega
theorem sqN_eqB {ls : List Int} : ∀ k, k ≤ ls.length → (sqN ls k = 0 ↔ eqB ls k = true)
  | 0, _ => by simp [sqN, eqB]
  | k + 1, hk => by
    obtain ⟨x, hx⟩ : ∃ x, ls[k]? = some x := ⟨_, List.getElem?_eq_getElem (by omega)⟩
    obtain ⟨y, hy⟩ : ∃ x, ls[0]? = some x := ⟨_, List.getElem?_eq_getElem (by omega)⟩
    have ih := sqN_eqB (ls := ls) k (by omega)
    have h1 := sqN_nn ls k
    have h2 := sqI_nn x ls k
    rw [sqN_succ hx, eqB_step hx hy, Bool.and_eq_true, beq_iff_eq, ← ih]
    constructor
    · intro h
      have h3 : sqN ls k = 0 := by omega
      have h4 : sqI x ls k = 0 := by omega
      refine ⟨h3, ?_⟩
      by_cases h0 : k = 0
      · subst h0; rw [hx] at hy; exact Option.some.inj hy
      · have h5 := (sqI_0 k (by omega)).1 h4 0 (by omega)
        rw [hy] at h5; exact (Option.some.inj h5).symm
    · rintro ⟨h3, h4⟩
      have h5 := eqB_all hy k (by omega) (ih.1 h3)
      have h6 := (sqI_0 (m := x) (l := ls) k (by omega)).2 fun i hi => by rw [h4]; exact h5 i hi
      omega
def upL (ls : List Int) : List Int := ls.map (· + 1)
theorem upL_len (ls : List Int) : (upL ls).length = ls.length := by simp [upL]
theorem upL_snoc {ls : List Int} {k : Nat} {x : Int} (h : ls[k]? = some x) : upL (ls.take (k + 1)) = upL (ls.take k) ++ [x + 1] := by
  rw [List.take_add_one, h]; simp [upL]
theorem upL_at {ls : List Int} {k : Nat} {x : Int} (h : ls[k]? = some x) : (upL ls)[k]? = some (x + 1) := by simp [upL, h]
theorem sqI_up (m : Int) (ls : List Int) : ∀ k, k ≤ ls.length → sqI (m + 1) (upL ls) k = sqI m ls k
  | 0, _ => rfl
  | k + 1, hk => by
    obtain ⟨x, hx⟩ : ∃ x, ls[k]? = some x := ⟨_, List.getElem?_eq_getElem (by omega)⟩
    rw [sqI_succ hx, sqI_succ (upL_at hx), sqI_up m ls k (by omega), show m + 1 - (x + 1) = m - x by omega]
theorem sqN_up (ls : List Int) : ∀ k, k ≤ ls.length → sqN (upL ls) k = sqN ls k
  | 0, _ => rfl
  | k + 1, hk => by
    obtain ⟨x, hx⟩ : ∃ x, ls[k]? = some x := ⟨_, List.getElem?_eq_getElem (by omega)⟩
    rw [sqN_succ hx, sqN_succ (upL_at hx), sqN_up ls k (by omega), sqI_up x ls k (by omega)]
theorem PairUp {ls : List Int} (hm : magsB ls = true) (a : Option Addr) (n c : Nat) (w : World) (hn : n ≤ 1048576) (hl : (upL ls).length = n) (hr : Rd eI 1 w a (upL ls)) (hcap : n ≤ c) : Calls Try.prog 41 #[.slice a n c] w fun e w' => (e = .returned (.tuple #[.int .i64 (psV (upL ls)), .int .i64 2]) ∧ Below w.heap.size w w') ∨ (e = .returned (.tuple #[.int .i64 (psV ls), .int .i64 0]) ∧ Below w.heap.size w w') :=
  (PairSquares_any (upL ls) a n c w hn hl hr hcap).mono fun e w' h => by
    by_cases hu : magsB (upL ls) = true
    · right
      have e1 : psV (upL ls) = psV ls := by unfold psV; rw [if_pos hu, if_pos hm, upL_len, sqN_up ls _ (Nat.le_refl _)]
      have e2 : psC (upL ls) = 0 := by unfold psC; rw [if_pos hu]
      rw [e1, e2] at h; exact h
    · left
      have e2 : psC (upL ls) = 2 := by unfold psC; rw [if_neg hu]
      rw [e2] at h; exact h
theorem vr_facts {ls : List Int} {F : Frac} (h : vrC ls = 0) (hF : vrF ls = F) : magsB ls = true ∧ 0 ≤ F.num ∧ (F.num = 0 ↔ eqB ls ls.length = true) := by
  obtain ⟨h1, h2⟩ := vrC_zero h
  have hN : (0 : Int) < (ls.length : Int) * (ls.length : Int) := Int.mul_pos (by omega) (by omega)
  have e : F = frF (sqN ls ls.length) ((ls.length : Int) * (ls.length : Int)) := by rw [← hF]; unfold vrF; rw [if_pos h]
  refine ⟨h1, by rw [e]; exact (th_fr (sqN_nn _ _) hN).1, ?_⟩
  rw [e, frF_num0 hN, sqN_eqB _ (Nat.le_refl _)]
theorem thC_da {ps : List Pt} {p b : Int} (h : thC ps p b = 0) : daC ps p b = 0 ∧ alS bn0 ps ps.length ≠ 0 := by
  unfold thC at h
  split at h
  · rename_i h1
    split at h
    · cases h
    · rename_i h2
      split at h
      · cases h
      · rename_i h3; exact ⟨by simp [daC, h1, h2], h3⟩
  · rename_i h1; exact absurd h h1
theorem frF_self {x : Int} (hx : 0 < x) : frF x x = ⟨1, 1⟩ := by
  unfold frF
  rw [Nat.gcd_self, show ((x.natAbs : Nat) : Int) = x by omega, Int.tdiv_self (by omega)]
theorem th_law {ps : List Pt} {p b : Int} {H G G2 : Frac} (h : thC ps p b = 0) (hH : thF ps p b = H) (hG : daF ps p b = G) (hW : whF ps = G2) : 0 ≤ H.num ∧ (H.num = 0 ↔ G.num = 0) ∧ (b = 1 → H.num = 1 ∧ H.den = 1 ∧ G = G2) := by
  obtain ⟨hd, hA⟩ := thC_da h
  obtain ⟨hv, hP⟩ := daC_zero hd
  have hb := th_bounds hv
  obtain ⟨_, e, hM⟩ := th_wh hd
  obtain ⟨e2, hP2⟩ := th_da hd
  have hA2 : 0 < alS bn0 ps ps.length := by have := hb.a0; omega
  have e3 : H = frF (alS (bnG b.toNat p) ps ps.length * alP bn0 ps ps.length) (alP (bnG b.toNat p) ps ps.length * alS bn0 ps ps.length) := by rw [← hH]; unfold thF; rw [if_pos h]
  have hPA : 0 < alP (bnG b.toNat p) ps ps.length * alS bn0 ps ps.length := Int.mul_pos hP2 hA2
  refine ⟨by rw [e3]; exact (th_fr (Int.mul_nonneg hb.s0 hb.m0) hPA).1, ?_, ?_⟩
  · rw [e3, ← hG, e2, frF_num0 hPA, frF_num0 hP2, Int.mul_eq_zero]
    constructor
    · rintro (h1 | h1)
      · exact h1
      · omega
    · exact .inl
  · rintro rfl
    have hp := (vaC_parts hv).2.1.1
    have e5 : bnG (1 : Int).toNat p = bn0 := bnG_one hp
    rw [e5] at e3 e2
    have e4 : H = ⟨1, 1⟩ := by rw [e3, Int.mul_comm (alP bn0 ps ps.length)]; exact frF_self (Int.mul_pos hA2 hM)
    exact ⟨by rw [e4], by rw [e4], by rw [← hG, ← hW, e2, e]⟩
end Go.Proofs.Ytloggipjmaiegaa
