/-
  The answers of the program and of the reference on alerts, alike whether they are errors or not.
-/
import Derived.Test.YtlgjdfagmeehcaaOu11
import Derived.Laws.StructEq
namespace Go.Proofs.Ytlgjdfagmeehcaa
open Go.RowKit
set_option maxRecDepth 100000
def ResL {α : Type} (enc : α → List Value) (k : Nat) (w : World) (E : Int) (L : List α) (e : Ending) (w' : World) : Prop := ∃ (a' : Option Addr) (n' c' : Nat), e = .returned (.tuple #[.slice a' n' c', .int .i64 E]) ∧ L.length = n' ∧ Rd enc k w' a' L ∧ Below w.heap.size w w'
theorem ResL.bad {α : Type} {enc : α → List Value} {k : Nat} {P : Program} {f : FuncId} {args : Array Value} {w : World} {E : Int} (h : Calls P f args w fun e w' => e = .returned (.tuple #[.slice none 0 0, .int .i64 E]) ∧ Below w.heap.size w w') : Calls P f args w (ResL enc k w E []) :=
  h.mono fun _ _ ⟨h1, h2⟩ => ⟨none, 0, 0, h1, rfl, Rd.nil _ _ _ _, h2⟩
theorem ResL.ok {P : Program} {f : FuncId} {args : Array Value} {w : World} {L : List Alt} (h : Calls P f args w (AlT w L)) : Calls P f args w (ResL Alt.enc 3 w 0 L) :=
  h.mono fun _ _ ⟨a', k, c', h1, h2, h3⟩ => ⟨a', k, c', h1, h2.len Alt.len (by decide), h2.rd Alt.len (by decide), h3⟩
theorem ResL.okB {P : Program} {f : FuncId} {args : Array Value} {w : World} {n : Nat} {L : List Bool} (h : Calls P f args w (StT w n L)) : Calls P f args w (ResL eBo 1 w 0 L) :=
  h.mono fun _ _ ⟨a', c', h1, h2, h3⟩ => ⟨a', n, c', h1, h2.len eBo_len (by decide), h2.rd eBo_len (by decide), h3⟩
def ouL (ps : List Pt) (x y : Int) (n : Nat) : List Alt := if thCode ps x y = 0 then alN min (oS ps x y) ps n else []
def faL (ps : List Pt) (x y : Int) (n : Nat) : List Alt := if thCode ps x y = 0 then alN max (fS ps x y) ps n else []
def soL (ps : List Pt) (x y : Int) (n : Nat) : List Bool := if thCode ps x y = 0 then stN (oS ps x y) n else []
theorem th_good {ps : List Pt} {x y : Int} (h : thCode ps x y = 0) : Pt.allOk ps = true ∧ thB x y = true := by
  unfold thCode at h
  split at h
  · assumption
  · cases h
def jnE (d : Int) (b : Bool) : Int := if b = true then (if inB d 0 10000000 = true then 0 else 2) else 1
def jnL (d : Int) (b : Bool) (ls : List Alt) : List Alt := if jnE d b = 0 then jnN d ls ls.length else []
theorem uOI (ps : List Pt) (a : Option Addr) (n c : Nat) (x y : Int) (w : World) (hn : n ≤ 200) (hl : ps.length = n) (hr : Rd Pt.enc 2 w a ps) : Calls Try.prog 25 #[.slice a n c, .agg #[.int .i64 x, .int .i64 y]] w (ResL Alt.enc 3 w (thCode ps x y) (ouL ps x y n)) := by
  by_cases h : thCode ps x y = 0
  · obtain ⟨hv, ht⟩ := th_good h
    rw [h]; unfold ouL; rw [if_pos h]
    exact ResL.ok (implOu_ok ps a n c x y w hn hl hr hv ht)
  · rw [thCode_bad h]; unfold ouL; rw [if_neg h]
    exact ResL.bad (implOu_bad ps a n c x y w hn hl hr h)
theorem uOS (ps : List Pt) (a : Option Addr) (n c : Nat) (x y : Int) (w : World) (hn : n ≤ 200) (hl : ps.length = n) (hr : Rd Pt.enc 2 w a ps) : Calls Try.prog 26 #[.slice a n c, .agg #[.int .i64 x, .int .i64 y]] w (ResL Alt.enc 3 w (thCode ps x y) (ouL ps x y n)) := by
  by_cases h : thCode ps x y = 0
  · obtain ⟨hv, ht⟩ := th_good h
    rw [h]; unfold ouL; rw [if_pos h]
    exact ResL.ok (specOu_ok ps a n c x y w hn hl hr hv ht)
  · rw [thCode_bad h]; unfold ouL; rw [if_neg h]
    exact ResL.bad (specOu_bad ps a n c x y w hn hl hr h)
theorem uFI (ps : List Pt) (a : Option Addr) (n c : Nat) (x y : Int) (w : World) (hn : n ≤ 200) (hl : ps.length = n) (hr : Rd Pt.enc 2 w a ps) : Calls Try.prog 27 #[.slice a n c, .agg #[.int .i64 x, .int .i64 y]] w (ResL Alt.enc 3 w (thCode ps x y) (faL ps x y n)) := by
  by_cases h : thCode ps x y = 0
  · obtain ⟨hv, ht⟩ := th_good h
    rw [h]; unfold faL; rw [if_pos h]
    exact ResL.ok (implFa_ok ps a n c x y w hn hl hr hv ht)
  · rw [thCode_bad h]; unfold faL; rw [if_neg h]
    exact ResL.bad (implFa_bad ps a n c x y w hn hl hr h)
theorem uFS (ps : List Pt) (a : Option Addr) (n c : Nat) (x y : Int) (w : World) (hn : n ≤ 200) (hl : ps.length = n) (hr : Rd Pt.enc 2 w a ps) : Calls Try.prog 28 #[.slice a n c, .agg #[.int .i64 x, .int .i64 y]] w (ResL Alt.enc 3 w (thCode ps x y) (faL ps x y n)) := by
  by_cases h : thCode ps x y = 0
  · obtain ⟨hv, ht⟩ := th_good h
    rw [h]; unfold faL; rw [if_pos h]
    exact ResL.ok (specFa_ok ps a n c x y w hn hl hr hv ht)
  · rw [thCode_bad h]; unfold faL; rw [if_neg h]
    exact ResL.bad (specFa_bad ps a n c x y w hn hl hr h)
theorem uSI (ps : List Pt) (a : Option Addr) (n c : Nat) (x y : Int) (w : World) (hn : n ≤ 200) (hl : ps.length = n) (hr : Rd Pt.enc 2 w a ps) : Calls Try.prog 29 #[.slice a n c, .agg #[.int .i64 x, .int .i64 y]] w (ResL eBo 1 w (thCode ps x y) (soL ps x y n)) := by
  by_cases h : thCode ps x y = 0
  · obtain ⟨hv, ht⟩ := th_good h
    rw [h]; unfold soL; rw [if_pos h]
    exact ResL.okB (implSt_ok ps a n c x y w hn hl hr hv ht)
  · rw [thCode_bad h]; unfold soL; rw [if_neg h]
    exact ResL.bad (implSt_bad ps a n c x y w hn hl hr h)
theorem uSS (ps : List Pt) (a : Option Addr) (n c : Nat) (x y : Int) (w : World) (hn : n ≤ 200) (hl : ps.length = n) (hr : Rd Pt.enc 2 w a ps) : Calls Try.prog 30 #[.slice a n c, .agg #[.int .i64 x, .int .i64 y]] w (ResL eBo 1 w (thCode ps x y) (soL ps x y n)) := by
  by_cases h : thCode ps x y = 0
  · obtain ⟨hv, ht⟩ := th_good h
    rw [h]; unfold soL; rw [if_pos h]
    exact ResL.okB (specSt_ok ps a n c x y w hn hl hr hv ht)
  · rw [thCode_bad h]; unfold soL; rw [if_neg h]
    exact ResL.bad (specSt_bad ps a n c x y w hn hl hr h)
theorem uJI (ls : List Alt) (b : Bool) (d : Int) (a : Option Addr) (n c : Nat) (w : World) (hn : n ≤ 1048576) (hl : ls.length = n) (hr : Rd Alt.enc 3 w a ls) (hb : b = true ↔ AOk ls) : Calls Try.prog 32 #[.slice a n c, .int .i64 d] w (ResL Alt.enc 3 w (jnE d b) (jnL d b ls)) := by
  unfold jnL jnE
  cases b with
  | false =>
    have hnb : ¬ AOk ls := fun h => by cases hb.2 h
    rw [if_neg (by decide), if_neg (by decide)]
    exact ResL.bad (implJn_bad1 ls d a n c w hn hl hr (fun h => hnb ((AOk_iff ls).2 h)))
  | true =>
    have hok := hb.1 rfl
    rw [if_pos rfl]
    cases hd : inB d 0 10000000 with
    | false =>
      rw [if_neg (by decide), if_neg (by decide)]
      exact ResL.bad (implJn_bad2 ls d a n c w hn hl hr ((AOk_iff ls).1 hok) hd)
    | true =>
      rw [if_pos rfl, if_pos rfl, hl]
      exact ResL.ok (implJn_ok ls d a n c w hn hl hr hok hd)
theorem uJS (ls : List Alt) (b : Bool) (d : Int) (a : Option Addr) (n c : Nat) (w : World) (hn : n ≤ 1048576) (hl : ls.length = n) (hr : Rd Alt.enc 3 w a ls) (hb : b = true ↔ AOk ls) : Calls Try.prog 33 #[.slice a n c, .int .i64 d] w (ResL Alt.enc 3 w (jnE d b) (jnL d b ls)) := by
  unfold jnL jnE
  cases b with
  | false =>
    have hnb : ¬ AOk ls := fun h => by cases hb.2 h
    rw [if_neg (by decide), if_neg (by decide)]
    exact ResL.bad (specJn_bad1 ls d a n c w hn hl hr hnb)
  | true =>
    have hok := hb.1 rfl
    rw [if_pos rfl]
    cases hd : inB d 0 10000000 with
    | false =>
      rw [if_neg (by decide), if_neg (by decide)]
      exact ResL.bad (specJn_bad2 ls d a n c w hn hl hr hok hd)
    | true =>
      rw [if_pos rfl, if_pos rfl, hl]
      exact ResL.ok (specJn_ok ls d a n c w hn hl hr hok hd)
theorem jnE_zero {d : Int} {b : Bool} (h : jnE d b = 0) : b = true ∧ 0 ≤ d ∧ d ≤ 10000000 := by
  unfold jnE at h
  split at h
  · rename_i h1
    split at h
    · rename_i h2
      exact ⟨h1, inB_iff.1 h2⟩
    · cases h
  · cases h
theorem jnN_beg {d : Int} {ls : List Alt} (h : ∀ (i : Nat) (a : Alt), ls[i]? = some a → 0 ≤ a.beg ∧ a.beg ≤ 10000000) : ∀ k, k ≤ ls.length → ∀ z ∈ jnN d ls k, 0 ≤ z.beg ∧ z.beg ≤ 10000000
  | 0, _ => by simp [jnN]
  | k + 1, hk => by
    obtain ⟨a, ha⟩ : ∃ z, ls[k]? = some z := ⟨_, List.getElem?_eq_getElem (by omega)⟩
    have ih := jnN_beg (d := d) h k (by omega)
    have hka := h k a ha
    rcases list_snoc (jnN d ls k) with hl | ⟨xs, z, hl⟩
    · rw [jnN_none ha hl]
      intro y hy
      rw [List.mem_singleton] at hy; subst hy; exact hka
    · rw [hl] at ih
      by_cases hd : a.beg - z.fin ≤ d
      · rw [jnN_join ha hl hd]
        intro y hy
        rw [List.mem_append, List.mem_singleton] at hy
        rcases hy with hy | rfl
        · exact ih y (by simp [hy])
        · exact ih z (by simp)
      · rw [jnN_new ha hl hd]
        intro y hy
        rw [List.mem_append, List.mem_singleton] at hy
        rcases hy with hy | rfl
        · exact ih y hy
        · exact hka
theorem soL_at {ps : List Pt} {x y : Int} {n k : Nat} {v : Bool} (h : (soL ps x y n)[k]? = some v) : v = oS ps x y (k + 1) := by
  unfold soL at h
  split at h
  · have h2 := (List.getElem?_eq_some_iff.1 h).1
    rw [stN_len] at h2
    rw [stN_get _ _ _ h2] at h
    cases h; rfl
  · simp at h
theorem ou_beg {ps : List Pt} {x y : Int} {n : Nat} (hl : ps.length = n) (h : thCode ps x y = 0) : begN (oS ps x y) (soL ps x y n).length = (ouL ps x y n).length := by
  unfold soL ouL
  rw [if_pos h, if_pos h, stN_len, alN_beg rfl n (by omega)]
theorem ou_in {ps : List Pt} {x y : Int} {n : Nat} (hl : ps.length = n) (h : thCode ps x y = 0) : (∀ z ∈ ouL ps x y n, z.peak ≤ x) ∧ (ouL ps x y n).Pairwise fun a b => a.fin < b.beg := by
  have hg := th_good h
  have h1 := alN_in (s := oS ps x y) (M := x) (CuOk.of hg.1) rfl (fun k p hp h1 h0 => by
    rw [oS_succ hp, h0] at h1
    simpa [bO] using h1) n (by omega)
  unfold ouL
  rw [if_pos h]
  exact ⟨fun z hz => (h1.1 z hz).1, h1.2⟩
theorem pw_next {L : List Alt} (h : L.Pairwise fun a b => a.fin < b.beg) {i : Nat} {p q : Alt} (hp : L[i]? = some p) (hq : L[i + 1]? = some q) : p.fin < q.beg := by
  rw [List.pairwise_iff_getElem] at h
  obtain ⟨h1, rfl⟩ := List.getElem?_eq_some_iff.1 hp
  obtain ⟨h2, rfl⟩ := List.getElem?_eq_some_iff.1 hq
  exact h i (i + 1) h1 h2 (by omega)
theorem begN_le (s : Nat → Bool) : ∀ k, begN s k ≤ k
  | 0 => Nat.le_refl _
  | k + 1 => by
    have := begN_le s k
    unfold begN
    split <;> omega
theorem begN_up {s : Nat → Bool} {k : Nat} (h1 : s (k + 1) = true) (h0 : s k = false) : begN s (k + 1) = begN s k + 1 := by simp [begN, h1, h0]
theorem begN_same {s : Nat → Bool} {k : Nat} (h : s (k + 1) = false ∨ s k = true) : begN s (k + 1) = begN s k := by
  rcases h with h | h <;> simp [begN, h]
theorem minP_take {L : List Alt} {k : Nat} {x : Alt} (h : L[k]? = some x) : (if x.peak < minP (L.take k) then x.peak else minP (L.take k)) = minP (L.take (k + 1)) := by
  rw [List.take_add_one, h]
  show _ = minP (L.take k ++ [x])
  rw [minP_snoc]
  split <;> omega
theorem guardAl (op : BinOp) (o o' : Operand) (xs ys : Array Value) (wx : World) : (eqGuard op 71 o o' (.agg xs) (.agg ys)).run Try.prog wx = .ok () wx := run_eqGuard_agg wx op _ o o' xs ys (by kernel_rfl)
theorem neqAl (x : Alt) (wx : World) : (binOp .neq 71 (.agg #[.int .i64 x.beg, .int .i64 x.fin, .int .i64 x.peak]) (.agg #[.int .i64 x.beg, .int .i64 x.fin, .int .i64 x.peak])).run Try.prog wx = .ok (.bool false) wx := by
  rw [run_neq_struct, run_equalIn_agg _ _ _ _ _ (by kernel_rfl) (by kernel_rfl)]
  rw [Program.fieldsOf, Try.underlying71]
  have e1 := fun w a b => run_equalIn_int (P := Try.prog) w 9998 2 .i64 .i64 a b Try.underlying2
  have p0 : ∀ (a b c : Int) (w : World), (part 2 #[.int .i64 a, .int .i64 b, .int .i64 c] 0).run Try.prog w = .ok (.int .i64 a) w := by intros; kernel_rfl
  have p1 : ∀ (a b c : Int) (w : World), (part 2 #[.int .i64 a, .int .i64 b, .int .i64 c] 1).run Try.prog w = .ok (.int .i64 b) w := by intros; kernel_rfl
  have p2 : ∀ (a b c : Int) (w : World), (part 2 #[.int .i64 a, .int .i64 b, .int .i64 c] 2).run Try.prog w = .ok (.int .i64 c) w := by intros; kernel_rfl
  simp only [Op.eqFields, p0, p1, p2, e1, Sem.run_bind, Sem.run_ite, Sem.run_pure, Result.andThen_ok, ne_eq, String.reduceEq, not_false_eq_true, if_true, beq_self_eq_true]
  rfl
end Go.Proofs.Ytlgjdfagmeehcaa
