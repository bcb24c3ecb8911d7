/-
  The lists of the fewest wrong links: the recursion walked.
-/
import Derived.Test.YtcebjjkckfopiaaLk5
import Derived.Test.YtcebjjkckfopiaaLkW
import Derived.Test.YtcebjjkckfopiaaCopy
import Derived.Test.YtcebjjkckfopiaaAppL
import Derived.Deep.RegionHeld3
import Derived.Deep.RegionLaw
import Derived.BigQuiet
import Derived.BigRegion
namespace Go.Proofs.Ytcebjjkckfopiaa
open Go.RowKit
set_option maxRecDepth 100000
set_option linter.unusedVariables false
set_option linter.unusedSimpArgs false
theorem extK_mono (ok : List Int → Bool) (m r : Nat) (pre : List Int) (fro : Nat) : ∀ (j i : Nat), fro ≤ i → (extK ok m r pre fro i).length ≤ (extK ok m r pre fro (i + j)).length
  | 0, i, _ => Nat.le_refl _
  | j + 1, i, h => by
    have h1 := extK_mono ok m r pre fro j i h
    rw [show i + (j + 1) = (i + j) + 1 by omega, extK_snoc (by omega), List.length_append]
    omega
theorem extK_le {ok : List Int → Bool} {m r : Nat} {pre : List Int} {fro i : Nat} (h : fro ≤ i) (hi : i < m) : (extK ok m r pre fro i).length + (extL ok m r (pre ++ [(i : Int)]) (i + 1)).length ≤ (extL ok m (r + 1) pre fro).length := by
  have h1 := extK_mono ok m r pre fro (m - (i + 1)) (i + 1) (by omega)
  rw [show i + 1 + (m - (i + 1)) = m by omega, extK_done, extK_snoc h, List.length_append] at h1
  exact h1
theorem risF_snoc {n : Int} {x : Int} (hx : x < n) : ∀ {fro : Int} {l : List Int}, risF x fro l → fro ≤ x → risF n fro (l ++ [x])
  | fro, [], _, h => ⟨h, hx, trivial⟩
  | fro, y :: r, ⟨h1, h2, h3⟩, h => ⟨h1, by omega, risF_snoc hx h3 (by omega)⟩
theorem risF_up {n n' : Int} (h : n ≤ n') : ∀ {fro : Int} {l : List Int}, risF n fro l → risF n' fro l
  | _, [], _ => trivial
  | _, x :: r, ⟨h1, h2, h3⟩ => ⟨h1, by omega, risF_up h h3⟩
/-- rising indices: A lie below k, the others are D -/
def Cut (m : Nat) (pre A D : List Int) (x k : Nat) : Prop := pre = A ++ D ∧ A.length = x ∧ (∀ y ∈ A, y < (k : Int)) ∧ risF m k D
theorem Cut.zero {m : Nat} {pre : List Int} (h : risF m 0 pre) : Cut m pre [] pre 0 0 := ⟨rfl, rfl, (fun y hy => by cases hy), h⟩
theorem Cut.yes {m : Nat} {pre A D : List Int} {d : Int} {x k : Nat} (h : Cut m pre A (d :: D) x k) (hd : d = (k : Int)) : pre.contains (k : Int) = true ∧ Cut m pre (A ++ [d]) D (x + 1) (k + 1) ∧ pre[x]? = some d := by
  obtain ⟨e, l, a, r1, r2, r3⟩ := h
  refine ⟨by rw [e, ← hd]; simp, ⟨by rw [e]; simp, by simp [l], fun y hy => ?_, by rw [show ((k + 1 : Nat) : Int) = d + 1 by omega]; exact r3⟩, by rw [e, ← l]; simp⟩
  rcases List.mem_append.1 hy with hy | hy
  · have := a y hy; omega
  · rw [List.mem_singleton.1 hy]; omega
theorem risF_low {n : Int} {fro : Int} {l : List Int} (h : risF n fro l) : ∀ y ∈ l, fro ≤ y := fun y hy => by
  obtain ⟨i, hi⟩ := List.getElem?_of_mem hy
  exact ((risF_two n h).1 i y hi).1
theorem Cut.no {m : Nat} {pre A D : List Int} {x k : Nat} (h : Cut m pre A D x k) (hd : ∀ d D', D = d :: D' → d ≠ (k : Int)) : pre.contains (k : Int) = false ∧ Cut m pre A D x (k + 1) := by
  obtain ⟨e, l, a, r⟩ := h
  have hlow : risF m ((k + 1 : Nat) : Int) D := by
    cases D with
    | nil => trivial
    | cons d D' =>
      have := hd d D' rfl
      exact ⟨by have := r.1; omega, r.2.1, r.2.2⟩
  refine ⟨?_, e, l, fun y hy => by have := a y hy; omega, hlow⟩
  have hn : ¬ (k : Int) ∈ pre := fun hm => by
    rw [e] at hm
    rcases List.mem_append.1 hm with hm | hm
    · have := a _ hm; omega
    · have := risF_low hlow _ hm; omega
  simpa using hn
theorem Cut.end_ {m : Nat} {pre A : List Int} {x k : Nat} (h : Cut m pre A [] x k) : x = pre.length := by rw [h.1, List.append_nil, h.2.1]
theorem Cut.lt {m : Nat} {pre A D : List Int} {d : Int} {x k : Nat} (h : Cut m pre A (d :: D) x k) : x < pre.length ∧ pre[x]? = some d := by
  obtain ⟨e, l, _, _⟩ := h
  exact ⟨by rw [e, List.length_append, l, List.length_cons]; omega, by rw [e, ← l]; simp⟩
/-- what changes while the lists are sought: the box bo and the row of lists -/
structure StepO (bo : Nat) (w w' : World) (ov ov' : Value) : Prop where
  sz : w.heap.size ≤ w'.heap.size
  keep : ∀ b, b < w.heap.size → b ≠ bo → ov.ownBlock ≠ some b → w'.heap[b]? = w.heap[b]?
  loc : ∀ b, ov'.ownBlock = some b → ov.ownBlock = some b ∨ w.heap.size ≤ b
theorem StepO.of {bo : Nat} {w w' : World} (hb : Below w.heap.size w w') (ov : Value) : StepO bo w w' ov ov := ⟨hb.size, fun b h _ _ => hb.block b h, fun b h => .inl h⟩
theorem StepO.trans {bo : Nat} {w w1 w2 : World} {o0 o1 o2 : Value} (h : StepO bo w w1 o0 o1) (h' : StepO bo w1 w2 o1 o2) : StepO bo w w2 o0 o2 :=
  ⟨Nat.le_trans h.sz h'.sz, fun b hb hne ho => (h'.keep b (Nat.lt_of_lt_of_le hb h.sz) hne fun e => by
    rcases h.loc b e with e | e
    · exact ho e
    · omega).trans (h.keep b hb hne ho), fun b hb => by
    rcases h'.loc b hb with e | e
    · exact h.loc b e
    · exact .inr (Nat.le_trans h.sz e)⟩
/-- a slice that lies apart from the box and the row of lists -/
def SepA (bo : Nat) (ov : Value) (a : Option Addr) : Prop := ∀ b o p, a = some ⟨b, o, p⟩ → b ≠ bo ∧ ov.ownBlock ≠ some b
theorem StepO.rd {bo : Nat} {w w' : World} {ov ov' : Value} {a : Option Addr} {xs : List Int} (h : StepO bo w w' ov ov') (hs : SepA bo ov a) (hr : Rd eI 1 w a xs) : Rd eI 1 w' a xs := fun i x hx => by
  obtain ⟨b, o, e, hlt, hc⟩ := hr i x hx
  obtain ⟨s1, s2⟩ := hs b o none e
  have hk := h.keep b hlt s1 s2
  refine ⟨b, o, e, Nat.lt_of_lt_of_le hlt h.sz, fun j u hj => ?_⟩
  have := hc j u hj
  unfold World.cell? at this ⊢
  simp only [hk]
  exact this
/-- the state of the search -/
structure WSt (B0 : Nat) (W0 w : World) (B bn bl bs bo be r m cL n : Nat) (aL : Option Addr) (ov : Value) (q : Nat) (rs : List GRow) : Prop where
  cn : CAt w bn #[.int .i64 (r : Int)] 3
  cl : CAt w bl #[.slice aL m cL] 42
  cs : CAt w bs #[.int .i64 (n : Int)] 2
  ce : CAt w be #[.func (.func 58) #[] #[.pointer (some ⟨bn, 0, none⟩), .pointer (some ⟨bl, 0, none⟩), .pointer (some ⟨bs, 0, none⟩), .pointer (some ⟨bo, 0, none⟩), .pointer (some ⟨be, 0, none⟩)]] 89
  co : CAt w bo #[ov] 32
  gr : GrA w B ov q rs
  ne : bn ≠ bo ∧ bl ≠ bo ∧ bs ≠ bo ∧ be ≠ bo
  b : Below B0 W0 w
  hB : B0 ≤ B
  ho : B0 ≤ bo
theorem WSt.below {B0 : Nat} {W0 w w' : World} {B bn bl bs bo be r m cL n : Nat} {aL : Option Addr} {ov : Value} {q : Nat} {rs : List GRow} (h : WSt B0 W0 w B bn bl bs bo be r m cL n aL ov q rs) (hb : Below w.heap.size w w') : WSt B0 W0 w' B bn bl bs bo be r m cL n aL ov q rs :=
  ⟨h.cn.below hb, h.cl.below hb, h.cs.below hb, h.ce.below hb, h.co.below hb, h.gr.below hb, h.ne, h.b.trans (hb.mono (by have := h.co.lt; have := h.ho; omega)), h.hB, h.ho⟩
theorem WSt.app {B0 : Nat} {W0 w w' : World} {B bn bl bs bo be r m cL n : Nat} {aL : Option Addr} {ov : Value} {q : Nat} {rs : List GRow} (h : WSt B0 W0 w B bn bl bs bo be r m cL n aL ov q rs) {x : GRow} {g' c' : Nat} (hx : Ow eI 1 w B 2 (.slice x.a x.n x.c) x.n x.xs)
    (ho : Ow GRow.enc 1 w' B 34 (.slice (some ⟨g', 0, none⟩) (q + 1) c') (q + 1) (rs ++ [x])) (hb : Below B w w') (hl : ov.ownBlock = some g' ∨ w.heap.size ≤ g') (hk : ∀ b, b < w.heap.size → ov.ownBlock ≠ some b → w'.heap[b]? = w.heap[b]?) (hB : B ≤ w.heap.size) :
    CAt w' bo #[ov] 32 ∧ WSt B0 W0 (w'.setCell ⟨bo, 0, none⟩ (.slice (some ⟨g', 0, none⟩) (q + 1) c')) B bn bl bs bo be r m cL n aL (.slice (some ⟨g', 0, none⟩) (q + 1) c') (q + 1) (rs ++ [x]) ∧ StepO bo w (w'.setCell ⟨bo, 0, none⟩ (.slice (some ⟨g', 0, none⟩) (q + 1) c')) ov (.slice (some ⟨g', 0, none⟩) (q + 1) c') := by
  have kp : ∀ {g : Nat} {vs : Array Value} {t : TypeId}, CAt w g vs t → t ≠ 34 → CAt w' g vs t := fun hc ht => hc.keep hk (h.gr.out.neCAt hc ht)
  have hC := kp h.co (by decide)
  have hG := h.gr.app hx ho hk
  have n1 : (Value.slice (some ⟨g', 0, none⟩) (q + 1) c').ownBlock ≠ some bo := hG.out.neCAt hC (by decide)
  have hset : ∀ {g : Nat} {vs : Array Value} {t : TypeId}, CAt w' g vs t → g ≠ bo → CAt (w'.setCell ⟨bo, 0, none⟩ (.slice (some ⟨g', 0, none⟩) (q + 1) c')) g vs t := fun hc hne => hc.setNe hne 0 _
  refine ⟨hC, ⟨hset (kp h.cn (by decide)) h.ne.1, hset (kp h.cl (by decide)) h.ne.2.1, hset (kp h.cs (by decide)) h.ne.2.2.1, hset (kp h.ce (by decide)) h.ne.2.2.2, hC.set 0 _, ⟨hG.out.setOtherL n1 0 _, fun y hy => (hG.row y hy).setOtherL ((hG.row y hy).neCAt hC (by decide)) 0 _⟩, h.ne, (h.b.trans (hb.mono h.hB)).setCell (p := ⟨bo, 0, none⟩) h.ho _, h.hB, h.ho⟩, ⟨?_, fun b hb2 hne hov => ?_, fun b hb2 => ?_⟩⟩
  · have := hb.size
    simp [World.setCell]; exact this
  · exact (Below.heap_setCell _ _ _ _ hne).trans (hk b hb2 hov)
  · have e : g' = b := by simpa [Value.ownBlock] using hb2
    rw [← e]; exact hl
open Go.RowKit
set_option maxRecDepth 100000
set_option linter.unusedVariables false
set_option linter.unusedSimpArgs false
section
variable (B0 : Nat) (W0 : World) (B bn bl bs bo be r m cL n : Nat) (aL : Option Addr) (ls : List Lnk)
set_option maxHeartbeats 8000000 in
theorem ext_zero (h1 : 1 ≤ n) (h10 : n ≤ 10) (hm : m ≤ 12) (hl : ls.length = m) (hok : ∀ l ∈ ls, LkOk n l) (hrL : Rd Lnk.enc 3 W0 aL ls) (hB0 : B0 = W0.heap.size) (pre : List Int) (fro kW cW q : Nat) (aW : Option Addr) (ov : Value) (rs : List GRow) (w : World) (hk : pre.length = kW) (hkr : kW = r) (hris : risF m 0 pre) (hq : q + (extL (lkOkB n ls) m 0 pre fro).length ≤ 5000) (hrW : Rd eI 1 w aW pre) (hsp : SepA bo ov aW) (hst : WSt B0 W0 w B bn bl bs bo be r m cL n aL ov q rs) (hBw : B ≤ w.heap.size) :
    Calls Try.prog 58 #[.slice aW kW cW, .int .i64 (fro : Int), .pointer (some ⟨bn, 0, none⟩), .pointer (some ⟨bl, 0, none⟩), .pointer (some ⟨bs, 0, none⟩), .pointer (some ⟨bo, 0, none⟩), .pointer (some ⟨be, 0, none⟩)] w fun e w' => e = .returned (.tuple #[]) ∧ ∃ (ov' : Value) (q' : Nat) (rs' : List GRow), WSt B0 W0 w' B bn bl bs bo be r m cL n aL ov' q' rs' ∧ rs'.map GRow.xs = rs.map GRow.xs ++ extL (lkOkB n ls) m 0 pre fro ∧ StepO bo w w' ov ov' := by
  subst hkr
  have hk12 : kW ≤ 12 := by
    have h9 := congrArg List.length (risF_where_eq hris)
    have h8 := whereL_le m fun i => pre.contains (i : Int)
    omega
  have HB0 := Lib.hid hB0
  clear hB0
  have HL := Lib.hid hl
  have HO := Lib.hid hok
  have HRL := Lib.hid hrL
  have HK := Lib.hid hk
  have HRW := Lib.hid hrW
  have HST := Lib.hid hst
  have HRIS := Lib.hid hris
  have HQ := Lib.hid hq
  have HSP := Lib.hid hsp
  have x0 : w.cell? ⟨bn, 0, none⟩ = some (.int .i64 (kW : Int)) := hst.cn.cell 0
  have dk : ((kW : Int) == (kW : Int)) = true := by simp
  -- the row of the other links
  have hG := Ow.built Lnk.enc 3 w 75
  have hbA := below_built w 75
  obtain ⟨w1, hw1⟩ : ∃ wx, w.alloc (.cells #[] 75) = wx := ⟨_, rfl⟩
  obtain ⟨B1, hB1⟩ : ∃ gx, w.heap.size = gx := ⟨_, rfl⟩
  have hB1s : B1 ≤ w1.heap.size := by rw [← hw1, ← hB1]; simp
  rw [hw1] at hG hbA
  rw [hB1] at hG
  have HG := Lib.hid hG
  have HBA := Lib.hid hbA
  have HW1 := Lib.hid hw1
  have HB1 := Lib.hid hB1
  clear hl hok hrL hk hrW hst hris hq hsp hG hbA hw1 hB1
  go_enter Try.func58, Try.ntmps58
  go_upto_region 2 with (fail)
  rw [HW1.out, HB1.out]
  clear HW1 x0
  have y0 : w1.cell? ⟨bl, 0, none⟩ = some (.slice aL m cL) := (HST.out.below HBA.out).cl.cell 0
  go_wp2_with fail
  clear y0
  go_loopw [9, 10, 24] (fun rv xv i wr => ∃ (k x N : Nat) (a' : Option Addr) (c' : Nat) (R : List Lnk) (A D : List Int), k ≤ m ∧ i = .int .i64 k ∧ xv = .int .i64 x ∧ rv = .slice a' N c' ∧ N ≤ k ∧ Hid (R = lessL pre 0 (ls.take k)) ∧ Hid (Cut m pre A D x k) ∧ Hid (Ow Lnk.enc 3 wr B1 75 (.slice a' N c') N R) ∧ B1 ≤ wr.heap.size ∧ Hid (Below w.heap.size w wr)) (fun _ _ i _ => m - (intOf i).toNat)
  case atStart => exact ⟨0, 0, 0, _, _, [], [], pre, Nat.zero_le _, rfl, rfl, rfl, Nat.le_refl _, Lib.hid rfl, Lib.hid (Cut.zero HRIS.out), HG, hB1s, HBA⟩
  case round =>
  obtain ⟨k, x, N, a', c', R, A, D, hkm, rfl, rfl, rfl, hN, HR, HCU, HOw, hBs, HBk⟩ := hrel
  obtain ⟨wA, hwA⟩ : ∃ wx, wx = wr := ⟨_, rfl⟩
  subst hwA
  clear HG HBA hB1s
  by_cases hlt : k < m
  case neg =>
    obtain rfl : m = k := by omega
    have HE : Hid (ls.take m = ls) := Lib.hid (List.take_of_length_le (by rw [HL.out]; omega))
    have HRE : Hid (R = lessL pre 0 ls) := Lib.hid (by rw [HR.out, HE.out])
    have HRok : Hid (∀ l ∈ R, LkOk n l) := Lib.hid fun l hl => HO.out l (lessL_sub pre ls 0 l (by rw [← HRE.out]; exact hl))
    have HOKB : Hid ((lkJ n R).ok = lkOkB n ls pre) := Lib.hid (by rw [HRE.out]; rfl)
    have hNl := HOw.out.len Lnk.len (by decide)
    have HNl := Lib.hid hNl
    have HRd := Lib.hid (HOw.out.rd Lnk.len (by decide))
    have HS1 := Lib.hid (HST.out.below HBk.out)
    have y1 : wA.cell? ⟨bs, 0, none⟩ = some (.int .i64 (n : Int)) := HS1.out.cs.cell 0
    clear hNl
    go_wp2_with fail
    refine (offsets_any n R a' N c' _ h1 h10 (by omega) HNl.out HRok.out HRd.out).mono ?_
    rintro e w3 ⟨g, h, rfl, hT⟩
    have HB3 := Lib.hid (HBk.out.trans (hT.b.mono HBk.out.size))
    have HS3 := Lib.hid (HST.out.below HB3.out)
    rw [HOKB.out]
    clear hT y1 HS1
    cases hfi : lkOkB n ls pre with
    | false =>
      have HXL : Hid (extL (lkOkB n ls) m 0 pre fro = []) := Lib.hid (by rw [extL, hfi]; rfl)
      clear hfi
      go_wp2_with fail
      refine bodyPost_ret (results_none rfl _ _ _) rfl ?_
      exact ⟨by first | rfl | trivial, ov, q, rs, HS3.out, by rw [HXL.out, List.append_nil], StepO.of HB3.out ov⟩
    | true =>
      have HXL : Hid (extL (lkOkB n ls) m 0 pre fro = [pre]) := Lib.hid (by rw [extL, hfi]; rfl)
      have hq1 : q + 1 ≤ 5000 := by have h9 := HQ.out; rw [HXL.out] at h9; exact h9
      clear hfi
      have HSD := Lib.hid (HS3.out.below (Below.refl _ _).drew)
      have HRD := Lib.hid (((HRW.out.below HB3.out).below (Below.refl _ _).drew))
      have z0 : w3.drew.cell? ⟨bo, 0, none⟩ = some ov := HSD.out.co.cell 0
      have HBD : Hid (Below w.heap.size w w3.drew) := Lib.hid HB3.out.drew
      go_upto_region 11 with (fail)
      go_wp2_with fail
      have hbB : B ≤ w3.drew.heap.size := Nat.le_trans hBw HBD.out.size
      have h63 : q + 1 ≤ maxLen := by unfold maxLen; omega
      have hby : (q + 1) * 24 ≤ 140737488355328 := by omega
      go_region_law (first
        | (go_simp; go_at_call 53; (with_reducible refine (copyOfInt_any pre aW kW cW w3.drew (by omega) HK.out HRD.out).mono ?_); rintro e w4 ⟨a4, c4, rfl, ho4, hb4⟩; have HS4 := Lib.hid (HSD.out.below hb4); have HB4 := Lib.hid (HBD.out.trans (hb4.mono HBD.out.size)); have hbB4 : B ≤ w4.heap.size := Nat.le_trans hbB hb4.size; have HR4 : Hid (Ow eI 1 w4 B 2 (.slice (GRow.mk a4 kW c4 pre).a kW c4) kW pre) := Lib.hid (ho4.mono hbB); have z4 : w4.cell? ⟨bo, 0, none⟩ = some ov := HS4.out.co.cell 0; have za : (w4.alloc (.cells #[.slice a4 kW c4] 34)).cell? ⟨bo, 0, none⟩ = some ov := (HS4.out.co.alloc (.cells #[.slice a4 kW c4] 34)).cell 0; have HYS : Hid (rs ++ [(⟨a4, kW, c4, pre⟩ : GRow)] = rs ++ [(⟨a4, kW, c4, pre⟩ : GRow)]) := Lib.hid rfl; clear ho4 hb4)
        | (refine step_appL GRow.len (by decide) _ rfl (.tmp 55) (.tmp 58) 32 rfl 34 _ 24 rfl Try.underlying32 infoGRow B ov q _ rfl w4 _ _ rfl HS4.out.gr.out (⟨a4, kW, c4, pre⟩ : GRow) rfl rfl (GRow.one _) h63 hby hbB4 _ HYS ?_; intro g5 c5 w5 ho5 hb5 hl5 hk5; obtain ⟨hC5, hS5, hT5⟩ := HS4.out.app HR4.out ho5 hb5 hl5 hk5 hbB4; have z5 : w5.cell? ⟨bo, 0, none⟩ = some ov := hC5.cell 0; have f5 : w5.frozen? ⟨bo, 0, none⟩ = false := hC5.free 0; have HS5 := Lib.hid hS5; have HT5 := Lib.hid hT5; clear ho5 hb5 hl5 hk5 hC5 hS5 hT5))
      all_goals
        go_wp2_with fail
        refine bodyPost_ret (results_none rfl _ _ _) rfl ?_
        exact ⟨by first | rfl | trivial, _, q + 1, rs ++ [(⟨a4, kW, c4, pre⟩ : GRow)], HS5.out, by rw [HXL.out, List.map_append]; rfl, (StepO.of HB4.out ov).trans HT5.out⟩
  obtain ⟨l, hlx⟩ : ∃ z, ls[k]? = some z := ⟨_, List.getElem?_eq_getElem (by rw [HL.out]; exact hlt)⟩
  have HSN : Hid (lessL pre 0 (ls.take (k + 1)) = R ++ if pre.contains (k : Int) = true then [] else [l]) := Lib.hid (by rw [take_sn hlx, lessL_snoc, HR.out, Nat.zero_add, List.length_take, Nat.min_eq_left (by rw [HL.out]; omega)])
  have HSA := Lib.hid (HST.out.below HBk.out)
  obtain ⟨b, ofs, hab, hC⟩ := (HRL.out.below (by rw [← HB0.out]; exact HSA.out.b)).addr (by rw [HL.out]; omega)
  subst hab
  have x0 := hC k l hlx _ (Below.refl _ _) 0 _ rfl
  rw [Nat.add_zero] at x0
  have x1 := hC k l hlx _ (Below.refl _ _) 1 _ rfl
  have x2 := hC k l hlx _ (Below.refl _ _) 2 _ rfl
  have j0 : (0 : Int) ≤ (k : Nat) := by omega
  have j1 : ((k : Nat) : Int) < (m : Nat) := by omega
  have hbx : Below wA.heap.size wA (wA.alloc (.cells #[.int .i64 l.a, .int .i64 l.b, .int .i64 l.diff] 75)) := (Below.refl _ _).alloc (Nat.le_refl _) _
  have hO2 := HOw.out.below hbx
  have hB2 := HBk.out.trans (hbx.mono HBk.out.size)
  have hB2s : B1 ≤ (wA.alloc (.cells #[.int .i64 l.a, .int .i64 l.b, .int .i64 l.diff] 75)).heap.size := Nat.le_trans hBs hbx.size
  have hCX := CAt.new wA #[.int .i64 l.a, .int .i64 l.b, .int .i64 l.diff] 75
  obtain ⟨wB, hwB⟩ : ∃ wx, wA.alloc (.cells #[.int .i64 l.a, .int .i64 l.b, .int .i64 l.diff] 75) = wx := ⟨_, rfl⟩
  obtain ⟨gl, hgl⟩ : ∃ gx, wA.heap.size = gx := ⟨_, rfl⟩
  rw [hwB] at hO2 hB2 hB2s hCX
  rw [hgl] at hCX
  have HO2 := Lib.hid hO2
  have HB2 := Lib.hid hB2
  have HCX := Lib.hid hCX
  have HWB := Lib.hid hwB
  have HGL := Lib.hid hgl
  clear hlx hC hbx hO2 hB2 hCX hwB hgl HOw HBk
  go_upto_region 5 with (fail)
  rw [HWB.out, HGL.out]
  clear HWB HGL x0 x1 x2 HSA
  have HSB := Lib.hid (HST.out.below HB2.out)
  have y0 : wB.cell? ⟨bn, 0, none⟩ = some (.int .i64 (kW : Int)) := HSB.out.cn.cell 0
  have y1 : wB.cell? ⟨gl, 0, none⟩ = some (.int .i64 l.a) := HCX.out.cell 0
  have y2 : wB.cell? ⟨gl, 1, none⟩ = some (.int .i64 l.b) := HCX.out.cell 1
  have y3 : wB.cell? ⟨gl, 2, none⟩ = some (.int .i64 l.diff) := HCX.out.cell 2
  have HAPP : Hid (∀ (hno : pre.contains (k : Int) = false), R ++ [l] = lessL pre 0 (ls.take (k + 1))) := Lib.hid fun hno => by rw [HSN.out, hno]; rfl
  have h63 : N + 1 ≤ maxLen := by unfold maxLen; omega
  have hby : (N + 1) * 24 ≤ 140737488355328 := by omega
  cases D with
  | nil =>
    have hx := HCU.out.end_
    rw [HK.out] at hx
    have HNO := Lib.hid (HCU.out.no (fun d D' h => by cases h))
    have dx : decide ((x : Int) < (kW : Int)) = false := decide_eq_false (by omega)
    have dxn : decide (x < kW) = false := decide_eq_false (by omega)
    have HYS := Lib.hid (HAPP.out HNO.out.1)
    clear hx
    go_wp2_with (at_builtin; refine wpl_app Lnk.len (by decide) _ rfl (.tmp 42) (.tmp 44) 42 rfl 75 _ 24 rfl Try.underlying42 Try.info75 B1 _ N _ rfl wB _ _ rfl HO2.out l rfl rfl (Lnk.one _) h63 hby hB2s _ HYS ?_)
    intro a6 c6 w6 ho6 hb6 hs6
    have HO6 := Lib.hid ho6
    have HB6 := Lib.hid (HB2.out.trans (hb6.mono (by rw [HB1.out]; exact Nat.le_refl _)))
    have hB6 : B1 ≤ w6.heap.size := by omega
    clear ho6 hb6 hs6
    go_wp2_with fail
    go_roundw
    case rel => exact ⟨k + 1, x, N + 1, a6, c6, _, A, [], by omega, by go_num, rfl, rfl, by omega, Lib.hid rfl, Lib.hid HNO.out.2, HO6, hB6, HB6⟩
    case measure => simp [intOf]; omega
  | cons d D' =>
    obtain ⟨hx1, hx2⟩ := HCU.out.lt
    rw [HK.out] at hx1
    have dx : decide ((x : Int) < (kW : Int)) = true := decide_eq_true (by omega)
    have dxn : decide (x < kW) = true := decide_eq_true hx1
    obtain ⟨b2, o2, e2, hlt2, hc2⟩ := (HRW.out.below HB2.out) x d hx2
    subst e2
    have y4 : wB.cell? ⟨b2, o2 + x, none⟩ = some (.int .i64 d) := by have h9 := hc2 0 (.int .i64 d) rfl; rwa [Nat.mul_one, Nat.add_zero] at h9
    have jx0 : (0 : Int) ≤ (x : Nat) := by omega
    have jx1 : ((x : Nat) : Int) < (kW : Nat) := by omega
    clear hx1 hx2 hc2 hlt2
    by_cases hdk : d = (k : Int)
    · have HYE := Lib.hid (HCU.out.yes hdk)
      have ddk : (d == (k : Int)) = true := beq_iff_eq.2 hdk
      have HRS : Hid (R = lessL pre 0 (ls.take (k + 1))) := Lib.hid (by rw [HSN.out, HYE.out.1]; simp)
      clear hdk
      go_wp2_with fail
      go_roundw
      case rel => exact ⟨k + 1, x + 1, N, a', c', R, _, D', by omega, by go_num, by go_num, rfl, by omega, HRS, Lib.hid HYE.out.2.1, HO2, hB2s, HB2⟩
      case measure => simp [intOf]; omega
    · have HNO := Lib.hid (HCU.out.no (fun d2 D2 h => by cases h; exact hdk))
      have ddk : (d == (k : Int)) = false := beq_eq_false_iff_ne.2 hdk
      have HYS := Lib.hid (HAPP.out HNO.out.1)
      clear hdk
      go_wp2_with (at_builtin; refine wpl_app Lnk.len (by decide) _ rfl (.tmp 42) (.tmp 44) 42 rfl 75 _ 24 rfl Try.underlying42 Try.info75 B1 _ N _ rfl wB _ _ rfl HO2.out l rfl rfl (Lnk.one _) h63 hby hB2s _ HYS ?_)
      intro a6 c6 w6 ho6 hb6 hs6
      have HO6 := Lib.hid ho6
      have HB6 := Lib.hid (HB2.out.trans (hb6.mono (by rw [HB1.out]; exact Nat.le_refl _)))
      have hB6 : B1 ≤ w6.heap.size := by omega
      clear ho6 hb6 hs6
      go_wp2_with fail
      go_roundw
      case rel => exact ⟨k + 1, x, N + 1, a6, c6, _, A, (d :: D'), by omega, by go_num, rfl, rfl, by omega, Lib.hid rfl, Lib.hid HNO.out.2, HO6, hB6, HB6⟩
      case measure => simp [intOf]; omega
end
end Go.Proofs.Ytcebjjkckfopiaa
