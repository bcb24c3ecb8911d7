/-
  The lists of the fewest wrong links: the recursion walked whole.
-/
import Derived.Test.YtnioecigjpifnaaLk9
namespace Go.Proofs.Ytnioecigjpifnaa
open Go.RowKit
set_option maxRecDepth 100000
set_option linter.unusedVariables false
set_option linter.unusedSimpArgs false
section
variable {P : Program} {ops : Array Oper} {rest : List Oper} {o : Oper} {a : Act} {Q : Exit → Act → World → Prop}
theorem core_appG {K : Act → World → Prop} (w : World) (s xo : Operand) (t : TypeId) (hop : o.op = Op.call { callee := Callee.builtin Builtin.append, args := #[s, xo], argTypes := #[t, t] })
    (e : TypeId) (h1 : P.underlying t = some (.slice e)) (hinfo : (P.info? e).map (fun i => (i.zero, i.size, i.bytes)) = some (some (.int .i64 0), 1, 8))
    (base : Nat) (v : Value) (n : Nat) (xs : List Int) (hs : a.eval s = v) (hown : Ow eI 1 w base e v n xs) (x : Int) (b : Nat) (hx : a.eval xo = .slice (some ⟨b, 0, none⟩) 1 1) (hc : w.cell? ⟨b, 0, none⟩ = some (.int .i64 x))
    (h63 : n + 1 ≤ maxLen) (hbytes : (n + 1) * 8 ≤ 140737488355328) (hbase : base ≤ w.heap.size) (ys : List Int) (hys : Hid (xs ++ [x] = ys))
    (hK : ∀ g' cap' w', Ow eI 1 w' base e (.slice (some ⟨g', 0, none⟩) (n + 1) cap') (n + 1) ys → Below base w w' → (v.ownBlock = some g' ∨ w.heap.size ≤ g') → (∀ q, q < w.heap.size → v.ownBlock ≠ some q → w'.heap[q]? = w.heap[q]?) → K (a.put o.dst (.slice (some ⟨g', 0, none⟩) (n + 1) cap')) w') :
    o.wp P a w K Q := by
  obtain ⟨i0, hi, hz0, hz1, hz2⟩ := info_parts hinfo
  refine wp_append_lies _ s xo t hop base e i0 (.int .i64 0) 1 8 h1 hi hz0 hz1 hz2 rfl (by decide) v n _ hs hown ⟨b, 0, none⟩ 1 1 (eI x) hx rfl ?_ (eI_one x) (by omega) h63 hbytes hbase _ rfl ?_
  · intro j u hj
    have hj0 : j = 0 := by have := (List.getElem?_eq_some_iff.1 hj).1; simp [eI] at this; omega
    subst hj0
    have hu : u = .int .i64 x := by simpa [eI] using hj.symm
    subst hu
    exact hc
  · intro g' cap' w' hown' hgr hat _
    have e2 : xs.flatMap eI ++ eI x = (xs ++ [x]).flatMap eI := by simp
    rw [e2, hys.out] at hown'
    refine hK g' cap' w' hown' ((Below.refl _ _).grown hgr hbase (fun b hb => (hown.lt b hb).1)) ?_ fun q hq hne => hgr.block q hq (fun h => hne h.symm)
    rcases hat with h | h
    · exact .inl h
    · right; omega
theorem step_appG {K : Act → World → Prop} {E : Prop} (w : World) (hg : o.guard = none) (s xo : Operand) (t : TypeId) (hop : o.op = Op.call { callee := Callee.builtin Builtin.append, args := #[s, xo], argTypes := #[t, t] })
    (e : TypeId) (h1 : P.underlying t = some (.slice e)) (hinfo : (P.info? e).map (fun i => (i.zero, i.size, i.bytes)) = some (some (.int .i64 0), 1, 8))
    (base : Nat) (v : Value) (n : Nat) (xs : List Int) (hs : a.eval s = v) (hown : Ow eI 1 w base e v n xs) (x : Int) (b : Nat) (hx : a.eval xo = .slice (some ⟨b, 0, none⟩) 1 1) (hc : w.cell? ⟨b, 0, none⟩ = some (.int .i64 x))
    (h63 : n + 1 ≤ maxLen) (hbytes : (n + 1) * 8 ≤ 140737488355328) (hbase : base ≤ w.heap.size) (ys : List Int) (hys : Hid (xs ++ [x] = ys))
    (hK : ∀ g' cap' w', Ow eI 1 w' base e (.slice (some ⟨g', 0, none⟩) (n + 1) cap') (n + 1) ys → Below base w w' → (v.ownBlock = some g' ∨ w.heap.size ≤ g') → (∀ q, q < w.heap.size → v.ownBlock ≠ some q → w'.heap[q]? = w.heap[q]?) → K (a.put o.dst (.slice (some ⟨g', 0, none⟩) (n + 1) cap')) w') :
    if Region.wanted o (yielded ops a.tmps) = true then Oper.wp P o a w K Q else E := by
  rw [if_pos (by simp [Region.wanted, hg])]
  exact core_appG w s xo t hop e h1 hinfo base v n xs hs hown x b hx hc h63 hbytes hbase ys hys hK
end
section
variable (B0 : Nat) (W0 : World) (B bn bl bs bo be r m cL n : Nat) (aL : Option Addr) (ls : List Lnk)
set_option maxHeartbeats 8000000 in
theorem ext_any (h1 : 1 ≤ n) (h10 : n ≤ 10) (hm : m ≤ 12) (hl : ls.length = m) (hok : ∀ l ∈ ls, LkOk n l) (hrL : Rd Lnk.enc 3 W0 aL ls) (hB0 : B0 = W0.heap.size) : ∀ (d : Nat) (pre : List Int) (fro kW cW q : Nat) (aW : Option Addr) (ov : Value) (rs : List GRow) (w : World), pre.length = kW → kW + d = r → fro ≤ m → risF fro 0 pre → q + (extL (lkOkB n ls) m d pre fro).length ≤ 5000 → Rd eI 1 w aW pre → SepA bo ov aW → WSt B0 W0 w B bn bl bs bo be r m cL n aL ov q rs → B ≤ w.heap.size →
    Calls Try.prog 60 #[.slice aW kW cW, .int .i64 (fro : Int), .pointer (some ⟨bn, 0, none⟩), .pointer (some ⟨bl, 0, none⟩), .pointer (some ⟨bs, 0, none⟩), .pointer (some ⟨bo, 0, none⟩), .pointer (some ⟨be, 0, none⟩)] w fun e w' => e = .returned (.tuple #[]) ∧ ∃ (ov' : Value) (q' : Nat) (rs' : List GRow), WSt B0 W0 w' B bn bl bs bo be r m cL n aL ov' q' rs' ∧ rs'.map GRow.xs = rs.map GRow.xs ++ extL (lkOkB n ls) m d pre fro ∧ StepO bo w w' ov ov' := by
  intro d
  induction d with
  | zero =>
    intro pre fro kW cW q aW ov rs w hk hkr hf hris hq hrW hsp hst hBw
    exact ext_zero B0 W0 B bn bl bs bo be r m cL n aL ls h1 h10 hm hl hok hrL hB0 pre fro kW cW q aW ov rs w hk (by omega) (risF_up (by omega) hris) hq hrW hsp hst hBw
  | succ d ih =>
  intro pre fro kW cW q aW ov rs w hk hkr hf hris hq hrW hsp hst hBw
  have hk12 : kW ≤ 12 := by
    have h9 := congrArg List.length (risF_where_eq (risF_up (n' := (m : Int)) (by omega) hris))
    have h8 := whereL_le m fun i => pre.contains (i : Int)
    omega
  have HIH0 := Lib.hid ih
  have HK := Lib.hid hk
  have HRW := Lib.hid hrW
  have HST := Lib.hid hst
  have HRIS := Lib.hid hris
  have HQ := Lib.hid hq
  have HSP := Lib.hid hsp
  have hql := hst.gr.out.len GRow.len (by decide)
  have HQL := Lib.hid hql
  have x0 : w.cell? ⟨bn, 0, none⟩ = some (.int .i64 (r : Int)) := hst.cn.cell 0
  have dk : ((kW : Int) == (r : Int)) = false := beq_eq_false_iff_ne.2 (by omega)
  clear hl hok hrL hk hrW hst hris hq hsp ih hql hB0
  go_enter Try.func60, Try.ntmps60
  go_wp2_with fail
  clear x0 dk
  go_loopw [16] (fun iv wr => ∃ (i : Nat) (ov1 : Value) (q1 : Nat) (rs1 : List GRow), fro ≤ i ∧ i ≤ m ∧ iv = .int .i64 (i : Int) ∧ Hid (WSt B0 W0 wr B bn bl bs bo be r m cL n aL ov1 q1 rs1) ∧ Hid (rs1.map GRow.xs = rs.map GRow.xs ++ extK (lkOkB n ls) m d pre fro i) ∧ Hid (StepO bo w wr ov ov1)) (fun iv _ => m - (intOf iv).toNat)
  case atStart => exact ⟨fro, ov, q, rs, Nat.le_refl _, hf, rfl, HST, Lib.hid (by rw [extK_zero, List.append_nil]), Lib.hid (StepO.of (Below.refl _ _) ov)⟩
  case round =>
  obtain ⟨i, ov1, q1, rs1, hfi, him, rfl, HSk, HMk, HTk⟩ := hrel
  obtain ⟨wA, hwA⟩ : ∃ wx, wx = wr := ⟨_, rfl⟩
  subst hwA
  have y0 : wA.cell? ⟨bl, 0, none⟩ = some (.slice aL m cL) := HSk.out.cl.cell 0
  by_cases hlt : i < m
  case neg =>
    obtain rfl : m = i := by omega
    have HMF := Lib.hid HMk.out
    rw [extK_done] at HMF
    go_wp2_with fail
    go_end0
    exact ⟨by first | rfl | trivial, ov1, q1, rs1, HSk.out, HMF.out, HTk.out⟩
  have HRA := Lib.hid (HTk.out.rd HSP.out HRW.out)
  have hBA : B ≤ wA.heap.size := Nat.le_trans hBw HTk.out.sz
  have hboA := HSk.out.co.lt
  have hq1 : q1 + (extL (lkOkB n ls) m d (pre ++ [(i : Int)]) (i + 1)).length ≤ 5000 := by
    have e1 := congrArg List.length HMk.out
    rw [List.length_append, List.length_map, List.length_map, HSk.out.gr.out.len GRow.len (by decide), HQL.out] at e1
    have e2 := extK_le (ok := lkOkB n ls) (r := d) (pre := pre) hfi hlt
    have e3 := HQ.out
    omega
  have HIH : Hid (∀ (g5 c5 : Nat) (w5 : World), wA.heap.size ≤ g5 → Rd eI 1 w5 (some ⟨g5, 0, none⟩) (pre ++ [(i : Int)]) → Below wA.heap.size wA w5 → Calls Try.prog 60 #[.slice (some ⟨g5, 0, none⟩) (kW + 1) c5, .int .i64 ((i : Int) + 1), .pointer (some ⟨bn, 0, none⟩), .pointer (some ⟨bl, 0, none⟩), .pointer (some ⟨bs, 0, none⟩), .pointer (some ⟨bo, 0, none⟩), .pointer (some ⟨be, 0, none⟩)] w5 fun e w' => e = .returned (.tuple #[]) ∧ ∃ (ov' : Value) (q' : Nat) (rs' : List GRow), WSt B0 W0 w' B bn bl bs bo be r m cL n aL ov' q' rs' ∧ rs'.map GRow.xs = rs1.map GRow.xs ++ extL (lkOkB n ls) m d (pre ++ [(i : Int)]) (i + 1) ∧ StepO bo w5 w' ov1 ov') := Lib.hid fun g5 c5 w5 hg hr5 hb5 => by
    rw [show (i : Int) + 1 = ((i + 1 : Nat) : Int) by omega]
    exact HIH0.out (pre ++ [(i : Int)]) (i + 1) (kW + 1) c5 q1 _ ov1 rs1 w5 (by rw [List.length_append, HK.out]; rfl) (by omega) (by omega) (risF_snoc (by omega) (risF_up (by omega) HRIS.out) (by omega)) hq1 hr5 (fun b o p e => by
      have e2 : g5 = b := by injection e with e; injection e
      subst e2
      exact ⟨by omega, fun h => by have := (HSk.out.gr.out.lt _ h).2; omega⟩) (HSk.out.below hb5) (Nat.le_trans hBA hb5.size)
  have HSr : Hid (∀ wq, Below wA.heap.size wA wq → wq.cell? ⟨be, 0, none⟩ = some (.func (.func 60) #[] #[.pointer (some ⟨bn, 0, none⟩), .pointer (some ⟨bl, 0, none⟩), .pointer (some ⟨bs, 0, none⟩), .pointer (some ⟨bo, 0, none⟩), .pointer (some ⟨be, 0, none⟩)])) := Lib.hid fun wq hq => ((HSk.out.below hq).ce).cell 0
  have DAB : Hid (Below wA.heap.size wA wA.drew) := Lib.hid (Below.refl _ _).drew
  have DAR := Lib.hid (HRA.out.below DAB.out)
  have DBB : Hid (Below wA.heap.size wA (wA.alloc (.cells #[.int .i64 (i : Int)] 2)).drew) := Lib.hid ((Below.refl wA.heap.size wA).alloc (Nat.le_refl _) _).drew
  have DBR := Lib.hid (HRA.out.below DBB.out)
  have y1 : (wA.alloc (.cells #[.int .i64 (i : Int)] 2)).drew.cell? ⟨wA.heap.size, 0, none⟩ = some (.int .i64 (i : Int)) := (CAt.new wA #[.int .i64 (i : Int)] 2).drew.cell 0
  have hda : wA.heap.size < (wA.alloc (.cells #[.int .i64 (i : Int)] 2)).drew.heap.size := by simp
  obtain ⟨ys, hys⟩ : ∃ ys, pre ++ [(i : Int)] = ys := ⟨_, rfl⟩
  have HYS := Lib.hid hys
  clear hys
  have h63 : kW + 1 ≤ maxLen := by unfold maxLen; omega
  have hby : (kW + 1) * 8 ≤ 140737488355328 := by omega
  have i1 : IntKind.i64.wrap ((i : Int) + 1) = (i : Int) + 1 := IntWalk.i64_in _ (by omega)
  go_upto_region 15 with (fail)
  go_wp2_with fail
  clear y0
  go_region_held3 (fun wq : World => wq.cell? ⟨be, 0, none⟩ = some (.func (.func 60) #[] #[.pointer (some ⟨bn, 0, none⟩), .pointer (some ⟨bl, 0, none⟩), .pointer (some ⟨bs, 0, none⟩), .pointer (some ⟨bo, 0, none⟩), .pointer (some ⟨be, 0, none⟩)])) (first | (go_keep; done) | exact HSr.out _ DAB.out | exact HSr.out _ DBB.out | exact HSr.out _ HB4a.out | exact HSr.out _ HB4.out | exact HSr.out _ HB4b.out | exact HSr.out _ HB5.out | exact HS6.out.ce.cell 0 | fail) (first
    | (refine step_appG (w4.alloc (.cells #[.int .i64 (i : Int)] 2)) rfl (.tmp 69) (.tmp 71) 39 rfl 2 Try.underlying39 infoL5 wA.heap.size (.slice a4 kW c4) kW pre rfl HO4a.out (i : Int) w4.heap.size rfl y4a h63 hby hs4a ys HYS ?_; intro g5 c5 w5 ho5 hb5 hl5 hk5; have HB5 := Lib.hid (HB4a.out.trans (hb5.mono (Nat.le_refl _))); have HO5 := Lib.hid ho5; have hg5 : wA.heap.size ≤ g5 := (ho5.lt g5 rfl).1; have HR5 := Lib.hid (ho5.rd eI_len (by decide)); clear ho5 hb5 hl5 hk5)
    | (refine step_appG w4b rfl (.tmp 69) (.tmp 71) 39 rfl 2 Try.underlying39 infoL5 wA.heap.size (.slice a4 kW c4) kW pre rfl HO4b.out (i : Int) wA.heap.size rfl y4b h63 hby hs4b ys HYS ?_; intro g5 c5 w5 ho5 hb5 hl5 hk5; have HB5 := Lib.hid (HB4b.out.trans (hb5.mono (Nat.le_refl _))); have HO5 := Lib.hid ho5; have hg5 : wA.heap.size ≤ g5 := (ho5.lt g5 rfl).1; have HR5 := Lib.hid (ho5.rd eI_len (by decide)); clear ho5 hb5 hl5 hk5)
    | (go_at_call 61; (with_reducible refine (copyOfInt_any pre aW kW cW wA.drew (by omega) HK.out DAR.out).mono ?_); rintro e w4 ⟨a4, c4, rfl, ho4, hb4⟩; have HB4 := Lib.hid (DAB.out.trans (hb4.mono DAB.out.size)); have HO4 := Lib.hid (ho4.mono (base' := wA.heap.size) DAB.out.size); have HO4a := Lib.hid (HO4.out.alloc2 (.cells #[.int .i64 (i : Int)] 2)); have HB4a := Lib.hid (HB4.out.alloc HB4.out.size (.cells #[.int .i64 (i : Int)] 2)); have y4a : (w4.alloc (.cells #[.int .i64 (i : Int)] 2)).cell? ⟨w4.heap.size, 0, none⟩ = some (.int .i64 (i : Int)) := (CAt.new w4 #[.int .i64 (i : Int)] 2).cell 0; have hs4a := HB4a.out.size; clear ho4 hb4)
    | (go_at_call 61; (with_reducible refine (copyOfInt_any pre aW kW cW (wA.alloc (.cells #[.int .i64 (i : Int)] 2)).drew (by omega) HK.out DBR.out).mono ?_); rintro e w4b ⟨a4, c4, rfl, ho4, hb4⟩; have HB4b := Lib.hid (DBB.out.trans (hb4.mono DBB.out.size)); have HO4b := Lib.hid (ho4.mono (base' := wA.heap.size) DBB.out.size); have y4b : w4b.cell? ⟨wA.heap.size, 0, none⟩ = some (.int .i64 (i : Int)) := (hb4.cell (p := ⟨wA.heap.size, 0, none⟩) hda).trans y1; have hs4b := HB4b.out.size; clear ho4 hb4)
    | (go_at_call 60; (with_reducible refine (HIH.out g5 c5 w5 hg5 (by rw [HYS.out]; exact HR5.out) HB5.out).mono ?_); rintro e w6 ⟨rfl, ov2, q2, rs2, hS6, hM6, hT6⟩; have HS6 := Lib.hid hS6; have HM6 := Lib.hid hM6; have HT6 := Lib.hid (HTk.out.trans ((StepO.of HB5.out ov1).trans hT6)); clear hS6 hM6 hT6))
  all_goals
    have HMN : Hid (rs2.map GRow.xs = rs.map GRow.xs ++ extK (lkOkB n ls) m d pre fro (i + 1)) := Lib.hid (by rw [HM6.out, HMk.out, extK_snoc hfi, List.append_assoc])
    go_wp2_with fail
    go_roundw
    case rel => exact ⟨i + 1, ov2, q2, rs2, by omega, by omega, by go_num, HS6, HMN, HT6⟩
    case measure => simp [intOf]; omega
end
end Go.Proofs.Ytnioecigjpifnaa
