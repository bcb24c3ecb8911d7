/-
  The lists of the fewest wrong links: the recursion.
-/
import Derived.Test.YtnioecigjpifnaaLk6
import Derived.Test.YtnioecigjpifnaaLk5
import Derived.Test.YtnioecigjpifnaaLkW
import Derived.Test.YtnioecigjpifnaaCopy
import Derived.Test.YtnioecigjpifnaaAppL
import Derived.Deep.RegionHeld3
import Derived.Deep.RegionLaw
import Derived.BigQuiet
import Derived.BigRegion
namespace Go.Proofs.Ytnioecigjpifnaa
open Go.RowKit
set_option maxRecDepth 100000
set_option linter.unusedVariables false
set_option linter.unusedSimpArgs false
theorem extK_mono (ok : List Int → Bool) (m r : Nat) (pre : List Int) (fro : Nat) : ∀ (j i : Nat), fro ≤ i → (extK ok m r pre fro i).length ≤ (extK ok m r pre fro (i + j)).length
  | 0, i, _ => Nat.le_refl _
  | j + 1, i, h => by
    have h1 := extK_mono ok m r pre fro j i h
    rw [show i + (j + 1) = (i + j) + 1 by omega, extK_snoc (by omega), List.length_append]
    omega
theorem extK_le {ok : List Int → Bool} {m r : Nat} {pre : List Int} {fro i : Nat} (h : fro ≤ i) (hi : i < m) : (extK ok m r pre fro i).length + (extL ok m r (pre ++ [(i : Int)]) (i + 1)).length ≤ (extL ok m (r + 1) pre fro).length := by
  have h1 := extK_mono ok m r pre fro (m - (i + 1)) (i + 1) (by omega)
  rw [show i + 1 + (m - (i + 1)) = m by omega, extK_done, extK_snoc h, List.length_append] at h1
  exact h1
theorem risF_snoc {n : Int} {x : Int} (hx : x < n) : ∀ {fro : Int} {l : List Int}, risF x fro l → fro ≤ x → risF n fro (l ++ [x])
  | fro, [], _, h => ⟨h, hx, trivial⟩
  | fro, y :: r, ⟨h1, h2, h3⟩, h => ⟨h1, by omega, risF_snoc hx h3 (by omega)⟩
theorem risF_up {n n' : Int} (h : n ≤ n') : ∀ {fro : Int} {l : List Int}, risF n fro l → risF n' fro l
  | _, [], _ => trivial
  | _, x :: r, ⟨h1, h2, h3⟩ => ⟨h1, by omega, risF_up h h3⟩
/-- rising indices: A lie below k, the others are D -/
def Cut (m : Nat) (pre A D : List Int) (x k : Nat) : Prop := pre = A ++ D ∧ A.length = x ∧ (∀ y ∈ A, y < (k : Int)) ∧ risF m k D
theorem Cut.zero {m : Nat} {pre : List Int} (h : risF m 0 pre) : Cut m pre [] pre 0 0 := ⟨rfl, rfl, (fun y hy => by cases hy), h⟩
theorem Cut.yes {m : Nat} {pre A D : List Int} {d : Int} {x k : Nat} (h : Cut m pre A (d :: D) x k) (hd : d = (k : Int)) : pre.contains (k : Int) = true ∧ Cut m pre (A ++ [d]) D (x + 1) (k + 1) ∧ pre[x]? = some d := by
  obtain ⟨e, l, a, r1, r2, r3⟩ := h
  refine ⟨by rw [e, ← hd]; simp, ⟨by rw [e]; simp, by simp [l], fun y hy => ?_, by rw [show ((k + 1 : Nat) : Int) = d + 1 by omega]; exact r3⟩, by rw [e, ← l]; simp⟩
  rcases List.mem_append.1 hy with hy | hy
  · have := a y hy; omega
  · rw [List.mem_singleton.1 hy]; omega
theorem risF_low {n : Int} {fro : Int} {l : List Int} (h : risF n fro l) : ∀ y ∈ l, fro ≤ y := fun y hy => by
  obtain ⟨i, hi⟩ := List.getElem?_of_mem hy
  exact ((risF_two n h).1 i y hi).1
theorem Cut.no {m : Nat} {pre A D : List Int} {x k : Nat} (h : Cut m pre A D x k) (hd : ∀ d D', D = d :: D' → d ≠ (k : Int)) : pre.contains (k : Int) = false ∧ Cut m pre A D x (k + 1) := by
  obtain ⟨e, l, a, r⟩ := h
  have hlow : risF m ((k + 1 : Nat) : Int) D := by
    cases D with
    | nil => trivial
    | cons d D' =>
      have := hd d D' rfl
      exact ⟨by have := r.1; omega, r.2.1, r.2.2⟩
  refine ⟨?_, e, l, fun y hy => by have := a y hy; omega, hlow⟩
  have hn : ¬ (k : Int) ∈ pre := fun hm => by
    rw [e] at hm
    rcases List.mem_append.1 hm with hm | hm
    · have := a _ hm; omega
    · have := risF_low hlow _ hm; omega
  simpa using hn
theorem Cut.end_ {m : Nat} {pre A : List Int} {x k : Nat} (h : Cut m pre A [] x k) : x = pre.length := by rw [h.1, List.append_nil, h.2.1]
theorem Cut.lt {m : Nat} {pre A D : List Int} {d : Int} {x k : Nat} (h : Cut m pre A (d :: D) x k) : x < pre.length ∧ pre[x]? = some d := by
  obtain ⟨e, l, _, _⟩ := h
  exact ⟨by rw [e, List.length_append, l, List.length_cons]; omega, by rw [e, ← l]; simp⟩
/-- what changes while the lists are sought: the box bo and the row of lists -/
structure StepO (bo : Nat) (w w' : World) (ov ov' : Value) : Prop where
  sz : w.heap.size ≤ w'.heap.size
  keep : ∀ b, b < w.heap.size → b ≠ bo → ov.ownBlock ≠ some b → w'.heap[b]? = w.heap[b]?
  loc : ∀ b, ov'.ownBlock = some b → ov.ownBlock = some b ∨ w.heap.size ≤ b
theorem StepO.of {bo : Nat} {w w' : World} (hb : Below w.heap.size w w') (ov : Value) : StepO bo w w' ov ov := ⟨hb.size, fun b h _ _ => hb.block b h, fun b h => .inl h⟩
theorem StepO.trans {bo : Nat} {w w1 w2 : World} {o0 o1 o2 : Value} (h : StepO bo w w1 o0 o1) (h' : StepO bo w1 w2 o1 o2) : StepO bo w w2 o0 o2 :=
  ⟨Nat.le_trans h.sz h'.sz, fun b hb hne ho => (h'.keep b (Nat.lt_of_lt_of_le hb h.sz) hne fun e => by
    rcases h.loc b e with e | e
    · exact ho e
    · omega).trans (h.keep b hb hne ho), fun b hb => by
    rcases h'.loc b hb with e | e
    · exact h.loc b e
    · exact .inr (Nat.le_trans h.sz e)⟩
/-- a slice that lies apart from the box and the row of lists -/
def SepA (bo : Nat) (ov : Value) (a : Option Addr) : Prop := ∀ b o p, a = some ⟨b, o, p⟩ → b ≠ bo ∧ ov.ownBlock ≠ some b
theorem StepO.rd {bo : Nat} {w w' : World} {ov ov' : Value} {a : Option Addr} {xs : List Int} (h : StepO bo w w' ov ov') (hs : SepA bo ov a) (hr : Rd eI 1 w a xs) : Rd eI 1 w' a xs := fun i x hx => by
  obtain ⟨b, o, e, hlt, hc⟩ := hr i x hx
  obtain ⟨s1, s2⟩ := hs b o none e
  have hk := h.keep b hlt s1 s2
  refine ⟨b, o, e, Nat.lt_of_lt_of_le hlt h.sz, fun j u hj => ?_⟩
  have := hc j u hj
  unfold World.cell? at this ⊢
  simp only [hk]
  exact this
/-- the state of the search -/
structure WSt (B0 : Nat) (W0 w : World) (B bn bl bs bo be r m cL n : Nat) (aL : Option Addr) (ov : Value) (q : Nat) (rs : List GRow) : Prop where
  cn : CAt w bn #[.int .i64 (r : Int)] 3
  cl : CAt w bl #[.slice aL m cL] 36
  cs : CAt w bs #[.int .i64 (n : Int)] 2
  ce : CAt w be #[.func (.func 60) #[] #[.pointer (some ⟨bn, 0, none⟩), .pointer (some ⟨bl, 0, none⟩), .pointer (some ⟨bs, 0, none⟩), .pointer (some ⟨bo, 0, none⟩), .pointer (some ⟨be, 0, none⟩)]] 94
  co : CAt w bo #[ov] 71
  gr : GrA w B ov q rs
  ne : bn ≠ bo ∧ bl ≠ bo ∧ bs ≠ bo ∧ be ≠ bo
  b : Below B0 W0 w
  hB : B0 ≤ B
  ho : B0 ≤ bo
theorem WSt.below {B0 : Nat} {W0 w w' : World} {B bn bl bs bo be r m cL n : Nat} {aL : Option Addr} {ov : Value} {q : Nat} {rs : List GRow} (h : WSt B0 W0 w B bn bl bs bo be r m cL n aL ov q rs) (hb : Below w.heap.size w w') : WSt B0 W0 w' B bn bl bs bo be r m cL n aL ov q rs :=
  ⟨h.cn.below hb, h.cl.below hb, h.cs.below hb, h.ce.below hb, h.co.below hb, h.gr.below hb, h.ne, h.b.trans (hb.mono (by have := h.co.lt; have := h.ho; omega)), h.hB, h.ho⟩
theorem WSt.app {B0 : Nat} {W0 w w' : World} {B bn bl bs bo be r m cL n : Nat} {aL : Option Addr} {ov : Value} {q : Nat} {rs : List GRow} (h : WSt B0 W0 w B bn bl bs bo be r m cL n aL ov q rs) {x : GRow} {g' c' : Nat} (hx : Ow eI 1 w B 2 (.slice x.a x.n x.c) x.n x.xs)
    (ho : Ow GRow.enc 1 w' B 39 (.slice (some ⟨g', 0, none⟩) (q + 1) c') (q + 1) (rs ++ [x])) (hb : Below B w w') (hl : ov.ownBlock = some g' ∨ w.heap.size ≤ g') (hk : ∀ b, b < w.heap.size → ov.ownBlock ≠ some b → w'.heap[b]? = w.heap[b]?) (hB : B ≤ w.heap.size) :
    CAt w' bo #[ov] 71 ∧ WSt B0 W0 (w'.setCell ⟨bo, 0, none⟩ (.slice (some ⟨g', 0, none⟩) (q + 1) c')) B bn bl bs bo be r m cL n aL (.slice (some ⟨g', 0, none⟩) (q + 1) c') (q + 1) (rs ++ [x]) ∧ StepO bo w (w'.setCell ⟨bo, 0, none⟩ (.slice (some ⟨g', 0, none⟩) (q + 1) c')) ov (.slice (some ⟨g', 0, none⟩) (q + 1) c') := by
  have kp : ∀ {g : Nat} {vs : Array Value} {t : TypeId}, CAt w g vs t → t ≠ 39 → CAt w' g vs t := fun hc ht => hc.keep hk (h.gr.out.neCAt hc ht)
  have hC := kp h.co (by decide)
  have hG := h.gr.app hx ho hk
  have n1 : (Value.slice (some ⟨g', 0, none⟩) (q + 1) c').ownBlock ≠ some bo := hG.out.neCAt hC (by decide)
  have hset : ∀ {g : Nat} {vs : Array Value} {t : TypeId}, CAt w' g vs t → g ≠ bo → CAt (w'.setCell ⟨bo, 0, none⟩ (.slice (some ⟨g', 0, none⟩) (q + 1) c')) g vs t := fun hc hne => hc.setNe hne 0 _
  refine ⟨hC, ⟨hset (kp h.cn (by decide)) h.ne.1, hset (kp h.cl (by decide)) h.ne.2.1, hset (kp h.cs (by decide)) h.ne.2.2.1, hset (kp h.ce (by decide)) h.ne.2.2.2, hC.set 0 _, ⟨hG.out.setOtherL n1 0 _, fun y hy => (hG.row y hy).setOtherL ((hG.row y hy).neCAt hC (by decide)) 0 _⟩, h.ne, (h.b.trans (hb.mono h.hB)).setCell (p := ⟨bo, 0, none⟩) h.ho _, h.hB, h.ho⟩, ⟨?_, fun b hb2 hne hov => ?_, fun b hb2 => ?_⟩⟩
  · have := hb.size
    simp [World.setCell]; exact this
  · exact (Below.heap_setCell _ _ _ _ hne).trans (hk b hb2 hov)
  · have e : g' = b := by simpa [Value.ownBlock] using hb2
    rw [← e]; exact hl
end Go.Proofs.Ytnioecigjpifnaa
