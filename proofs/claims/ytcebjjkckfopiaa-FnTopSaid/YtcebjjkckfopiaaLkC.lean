/-
  The fewest wrong links, the suspect ones, numbers and misfits: the program.
-/
import Derived.Test.YtcebjjkckfopiaaLk9
import Derived.Test.YtcebjjkckfopiaaLk4
import Derived.Test.YtcebjjkckfopiaaBo
import Derived.Test.YtcebjjkckfopiaaTimes
namespace Go.Proofs.Ytcebjjkckfopiaa
open Go.RowKit
set_option maxRecDepth 100000
set_option linter.unusedVariables false
set_option linter.unusedSimpArgs false
section
variable {P : Program} {ops : Array Oper} {rest : List Oper} {o : Oper} {a : Act} {Q : Exit → Act → World → Prop}
theorem core_appG {K : Act → World → Prop} (w : World) (s xo : Operand) (t : TypeId) (hop : o.op = Op.call { callee := Callee.builtin Builtin.append, args := #[s, xo], argTypes := #[t, t] })
    (e : TypeId) (h1 : P.underlying t = some (.slice e)) (hinfo : (P.info? e).map (fun i => (i.zero, i.size, i.bytes)) = some (some (.int .i64 0), 1, 8))
    (base : Nat) (v : Value) (n : Nat) (xs : List Int) (hs : a.eval s = v) (hown : Ow eI 1 w base e v n xs) (x : Int) (b : Nat) (hx : a.eval xo = .slice (some ⟨b, 0, none⟩) 1 1) (hc : w.cell? ⟨b, 0, none⟩ = some (.int .i64 x))
    (h63 : n + 1 ≤ maxLen) (hbytes : (n + 1) * 8 ≤ 140737488355328) (hbase : base ≤ w.heap.size) (ys : List Int) (hys : Hid (xs ++ [x] = ys))
    (hK : ∀ g' cap' w', Ow eI 1 w' base e (.slice (some ⟨g', 0, none⟩) (n + 1) cap') (n + 1) ys → Below base w w' → (v.ownBlock = some g' ∨ w.heap.size ≤ g') → (∀ q, q < w.heap.size → v.ownBlock ≠ some q → w'.heap[q]? = w.heap[q]?) → K (a.put o.dst (.slice (some ⟨g', 0, none⟩) (n + 1) cap')) w') :
    o.wp P a w K Q := by
  obtain ⟨i0, hi, hz0, hz1, hz2⟩ := info_parts hinfo
  refine wp_append_lies _ s xo t hop base e i0 (.int .i64 0) 1 8 h1 hi hz0 hz1 hz2 rfl (by decide) v n _ hs hown ⟨b, 0, none⟩ 1 1 (eI x) hx rfl ?_ (eI_one x) (by omega) h63 hbytes hbase _ rfl ?_
  · intro j u hj
    have hj0 : j = 0 := by have := (List.getElem?_eq_some_iff.1 hj).1; simp [eI] at this; omega
    subst hj0
    have hu : u = .int .i64 x := by simpa [eI] using hj.symm
    subst hu
    exact hc
  · intro g' cap' w' hown' hgr hat _
    have e2 : xs.flatMap eI ++ eI x = (xs ++ [x]).flatMap eI := by simp
    rw [e2, hys.out] at hown'
    refine hK g' cap' w' hown' ((Below.refl _ _).grown hgr hbase (fun b hb => (hown.lt b hb).1)) ?_ fun q hq hne => hgr.block q hq (fun h => hne h.symm)
    rcases hat with h | h
    · exact .inl h
    · right; omega
theorem step_appG {K : Act → World → Prop} {E : Prop} (w : World) (hg : o.guard = none) (s xo : Operand) (t : TypeId) (hop : o.op = Op.call { callee := Callee.builtin Builtin.append, args := #[s, xo], argTypes := #[t, t] })
    (e : TypeId) (h1 : P.underlying t = some (.slice e)) (hinfo : (P.info? e).map (fun i => (i.zero, i.size, i.bytes)) = some (some (.int .i64 0), 1, 8))
    (base : Nat) (v : Value) (n : Nat) (xs : List Int) (hs : a.eval s = v) (hown : Ow eI 1 w base e v n xs) (x : Int) (b : Nat) (hx : a.eval xo = .slice (some ⟨b, 0, none⟩) 1 1) (hc : w.cell? ⟨b, 0, none⟩ = some (.int .i64 x))
    (h63 : n + 1 ≤ maxLen) (hbytes : (n + 1) * 8 ≤ 140737488355328) (hbase : base ≤ w.heap.size) (ys : List Int) (hys : Hid (xs ++ [x] = ys))
    (hK : ∀ g' cap' w', Ow eI 1 w' base e (.slice (some ⟨g', 0, none⟩) (n + 1) cap') (n + 1) ys → Below base w w' → (v.ownBlock = some g' ∨ w.heap.size ≤ g') → (∀ q, q < w.heap.size → v.ownBlock ≠ some q → w'.heap[q]? = w.heap[q]?) → K (a.put o.dst (.slice (some ⟨g', 0, none⟩) (n + 1) cap')) w') :
    if Region.wanted o (yielded ops a.tmps) = true then Oper.wp P o a w K Q else E := by
  rw [if_pos (by simp [Region.wanted, hg])]
  exact core_appG w s xo t hop e h1 hinfo base v n xs hs hown x b hx hc h63 hbytes hbase ys hys hK
end
section
variable (B0 : Nat) (W0 : World) (B bn bl bs bo be r m cL n : Nat) (aL : Option Addr) (ls : List Lnk)
set_option maxHeartbeats 8000000 in
theorem ext_any (h1 : 1 ≤ n) (h10 : n ≤ 10) (hm : m ≤ 12) (hl : ls.length = m) (hok : ∀ l ∈ ls, LkOk n l) (hrL : Rd Lnk.enc 3 W0 aL ls) (hB0 : B0 = W0.heap.size) : ∀ (d : Nat) (pre : List Int) (fro kW cW q : Nat) (aW : Option Addr) (ov : Value) (rs : List GRow) (w : World), pre.length = kW → kW + d = r → fro ≤ m → risF fro 0 pre → q + (extL (lkOkB n ls) m d pre fro).length ≤ 5000 → Rd eI 1 w aW pre → SepA bo ov aW → WSt B0 W0 w B bn bl bs bo be r m cL n aL ov q rs → B ≤ w.heap.size →
    Calls Try.prog 58 #[.slice aW kW cW, .int .i64 (fro : Int), .pointer (some ⟨bn, 0, none⟩), .pointer (some ⟨bl, 0, none⟩), .pointer (some ⟨bs, 0, none⟩), .pointer (some ⟨bo, 0, none⟩), .pointer (some ⟨be, 0, none⟩)] w fun e w' => e = .returned (.tuple #[]) ∧ ∃ (ov' : Value) (q' : Nat) (rs' : List GRow), WSt B0 W0 w' B bn bl bs bo be r m cL n aL ov' q' rs' ∧ rs'.map GRow.xs = rs.map GRow.xs ++ extL (lkOkB n ls) m d pre fro ∧ StepO bo w w' ov ov' := by
  intro d
  induction d with
  | zero =>
    intro pre fro kW cW q aW ov rs w hk hkr hf hris hq hrW hsp hst hBw
    exact ext_zero B0 W0 B bn bl bs bo be r m cL n aL ls h1 h10 hm hl hok hrL hB0 pre fro kW cW q aW ov rs w hk (by omega) (risF_up (by omega) hris) hq hrW hsp hst hBw
  | succ d ih =>
  intro pre fro kW cW q aW ov rs w hk hkr hf hris hq hrW hsp hst hBw
  have hk12 : kW ≤ 12 := by
    have h9 := congrArg List.length (risF_where_eq (risF_up (n' := (m : Int)) (by omega) hris))
    have h8 := whereL_le m fun i => pre.contains (i : Int)
    omega
  have HIH0 := Lib.hid ih
  have HK := Lib.hid hk
  have HRW := Lib.hid hrW
  have HST := Lib.hid hst
  have HRIS := Lib.hid hris
  have HQ := Lib.hid hq
  have HSP := Lib.hid hsp
  have hql := hst.gr.out.len GRow.len (by decide)
  have HQL := Lib.hid hql
  have x0 : w.cell? ⟨bn, 0, none⟩ = some (.int .i64 (r : Int)) := hst.cn.cell 0
  have dk : ((kW : Int) == (r : Int)) = false := beq_eq_false_iff_ne.2 (by omega)
  clear hl hok hrL hk hrW hst hris hq hsp ih hql hB0
  go_enter Try.func58, Try.ntmps58
  go_wp2_with fail
  clear x0 dk
  go_loopw [16] (fun iv wr => ∃ (i : Nat) (ov1 : Value) (q1 : Nat) (rs1 : List GRow), fro ≤ i ∧ i ≤ m ∧ iv = .int .i64 (i : Int) ∧ Hid (WSt B0 W0 wr B bn bl bs bo be r m cL n aL ov1 q1 rs1) ∧ Hid (rs1.map GRow.xs = rs.map GRow.xs ++ extK (lkOkB n ls) m d pre fro i) ∧ Hid (StepO bo w wr ov ov1)) (fun iv _ => m - (intOf iv).toNat)
  case atStart => exact ⟨fro, ov, q, rs, Nat.le_refl _, hf, rfl, HST, Lib.hid (by rw [extK_zero, List.append_nil]), Lib.hid (StepO.of (Below.refl _ _) ov)⟩
  case round =>
  obtain ⟨i, ov1, q1, rs1, hfi, him, rfl, HSk, HMk, HTk⟩ := hrel
  obtain ⟨wA, hwA⟩ : ∃ wx, wx = wr := ⟨_, rfl⟩
  subst hwA
  have y0 : wA.cell? ⟨bl, 0, none⟩ = some (.slice aL m cL) := HSk.out.cl.cell 0
  by_cases hlt : i < m
  case neg =>
    obtain rfl : m = i := by omega
    have HMF := Lib.hid HMk.out
    rw [extK_done] at HMF
    go_wp2_with fail
    go_end0
    exact ⟨by first | rfl | trivial, ov1, q1, rs1, HSk.out, HMF.out, HTk.out⟩
  have HRA := Lib.hid (HTk.out.rd HSP.out HRW.out)
  have hBA : B ≤ wA.heap.size := Nat.le_trans hBw HTk.out.sz
  have hboA := HSk.out.co.lt
  have hq1 : q1 + (extL (lkOkB n ls) m d (pre ++ [(i : Int)]) (i + 1)).length ≤ 5000 := by
    have e1 := congrArg List.length HMk.out
    rw [List.length_append, List.length_map, List.length_map, HSk.out.gr.out.len GRow.len (by decide), HQL.out] at e1
    have e2 := extK_le (ok := lkOkB n ls) (r := d) (pre := pre) hfi hlt
    have e3 := HQ.out
    omega
  have HIH : Hid (∀ (g5 c5 : Nat) (w5 : World), wA.heap.size ≤ g5 → Rd eI 1 w5 (some ⟨g5, 0, none⟩) (pre ++ [(i : Int)]) → Below wA.heap.size wA w5 → Calls Try.prog 58 #[.slice (some ⟨g5, 0, none⟩) (kW + 1) c5, .int .i64 ((i : Int) + 1), .pointer (some ⟨bn, 0, none⟩), .pointer (some ⟨bl, 0, none⟩), .pointer (some ⟨bs, 0, none⟩), .pointer (some ⟨bo, 0, none⟩), .pointer (some ⟨be, 0, none⟩)] w5 fun e w' => e = .returned (.tuple #[]) ∧ ∃ (ov' : Value) (q' : Nat) (rs' : List GRow), WSt B0 W0 w' B bn bl bs bo be r m cL n aL ov' q' rs' ∧ rs'.map GRow.xs = rs1.map GRow.xs ++ extL (lkOkB n ls) m d (pre ++ [(i : Int)]) (i + 1) ∧ StepO bo w5 w' ov1 ov') := Lib.hid fun g5 c5 w5 hg hr5 hb5 => by
    rw [show (i : Int) + 1 = ((i + 1 : Nat) : Int) by omega]
    exact HIH0.out (pre ++ [(i : Int)]) (i + 1) (kW + 1) c5 q1 _ ov1 rs1 w5 (by rw [List.length_append, HK.out]; rfl) (by omega) (by omega) (risF_snoc (by omega) (risF_up (by omega) HRIS.out) (by omega)) hq1 hr5 (fun b o p e => by
      have e2 : g5 = b := by injection e with e; injection e
      subst e2
      exact ⟨by omega, fun h => by have := (HSk.out.gr.out.lt _ h).2; omega⟩) (HSk.out.below hb5) (Nat.le_trans hBA hb5.size)
  have HSr : Hid (∀ wq, Below wA.heap.size wA wq → wq.cell? ⟨be, 0, none⟩ = some (.func (.func 58) #[] #[.pointer (some ⟨bn, 0, none⟩), .pointer (some ⟨bl, 0, none⟩), .pointer (some ⟨bs, 0, none⟩), .pointer (some ⟨bo, 0, none⟩), .pointer (some ⟨be, 0, none⟩)])) := Lib.hid fun wq hq => ((HSk.out.below hq).ce).cell 0
  have DAB : Hid (Below wA.heap.size wA wA.drew) := Lib.hid (Below.refl _ _).drew
  have DAR := Lib.hid (HRA.out.below DAB.out)
  have DBB : Hid (Below wA.heap.size wA (wA.alloc (.cells #[.int .i64 (i : Int)] 2)).drew) := Lib.hid ((Below.refl wA.heap.size wA).alloc (Nat.le_refl _) _).drew
  have DBR := Lib.hid (HRA.out.below DBB.out)
  have y1 : (wA.alloc (.cells #[.int .i64 (i : Int)] 2)).drew.cell? ⟨wA.heap.size, 0, none⟩ = some (.int .i64 (i : Int)) := (CAt.new wA #[.int .i64 (i : Int)] 2).drew.cell 0
  have hda : wA.heap.size < (wA.alloc (.cells #[.int .i64 (i : Int)] 2)).drew.heap.size := by simp
  obtain ⟨ys, hys⟩ : ∃ ys, pre ++ [(i : Int)] = ys := ⟨_, rfl⟩
  have HYS := Lib.hid hys
  clear hys
  have h63 : kW + 1 ≤ maxLen := by unfold maxLen; omega
  have hby : (kW + 1) * 8 ≤ 140737488355328 := by omega
  have i1 : IntKind.i64.wrap ((i : Int) + 1) = (i : Int) + 1 := IntWalk.i64_in _ (by omega)
  go_upto_region 15 with (fail)
  go_wp2_with fail
  clear y0
  go_region_held3 (fun wq : World => wq.cell? ⟨be, 0, none⟩ = some (.func (.func 58) #[] #[.pointer (some ⟨bn, 0, none⟩), .pointer (some ⟨bl, 0, none⟩), .pointer (some ⟨bs, 0, none⟩), .pointer (some ⟨bo, 0, none⟩), .pointer (some ⟨be, 0, none⟩)])) (first | (go_keep; done) | exact HSr.out _ DAB.out | exact HSr.out _ DBB.out | exact HSr.out _ HB4a.out | exact HSr.out _ HB4.out | exact HSr.out _ HB4b.out | exact HSr.out _ HB5.out | exact HS6.out.ce.cell 0 | fail) (first
    | (refine step_appG (w4.alloc (.cells #[.int .i64 (i : Int)] 2)) rfl (.tmp 69) (.tmp 71) 34 rfl 2 Try.underlying34 infoL5 wA.heap.size (.slice a4 kW c4) kW pre rfl HO4a.out (i : Int) w4.heap.size rfl y4a h63 hby hs4a ys HYS ?_; intro g5 c5 w5 ho5 hb5 hl5 hk5; have HB5 := Lib.hid (HB4a.out.trans (hb5.mono (Nat.le_refl _))); have HO5 := Lib.hid ho5; have hg5 : wA.heap.size ≤ g5 := (ho5.lt g5 rfl).1; have HR5 := Lib.hid (ho5.rd eI_len (by decide)); clear ho5 hb5 hl5 hk5)
    | (refine step_appG w4b rfl (.tmp 69) (.tmp 71) 34 rfl 2 Try.underlying34 infoL5 wA.heap.size (.slice a4 kW c4) kW pre rfl HO4b.out (i : Int) wA.heap.size rfl y4b h63 hby hs4b ys HYS ?_; intro g5 c5 w5 ho5 hb5 hl5 hk5; have HB5 := Lib.hid (HB4b.out.trans (hb5.mono (Nat.le_refl _))); have HO5 := Lib.hid ho5; have hg5 : wA.heap.size ≤ g5 := (ho5.lt g5 rfl).1; have HR5 := Lib.hid (ho5.rd eI_len (by decide)); clear ho5 hb5 hl5 hk5)
    | (go_at_call 53; (with_reducible refine (copyOfInt_any pre aW kW cW wA.drew (by omega) HK.out DAR.out).mono ?_); rintro e w4 ⟨a4, c4, rfl, ho4, hb4⟩; have HB4 := Lib.hid (DAB.out.trans (hb4.mono DAB.out.size)); have HO4 := Lib.hid (ho4.mono (base' := wA.heap.size) DAB.out.size); have HO4a := Lib.hid (HO4.out.alloc2 (.cells #[.int .i64 (i : Int)] 2)); have HB4a := Lib.hid (HB4.out.alloc HB4.out.size (.cells #[.int .i64 (i : Int)] 2)); have y4a : (w4.alloc (.cells #[.int .i64 (i : Int)] 2)).cell? ⟨w4.heap.size, 0, none⟩ = some (.int .i64 (i : Int)) := (CAt.new w4 #[.int .i64 (i : Int)] 2).cell 0; have hs4a := HB4a.out.size; clear ho4 hb4)
    | (go_at_call 53; (with_reducible refine (copyOfInt_any pre aW kW cW (wA.alloc (.cells #[.int .i64 (i : Int)] 2)).drew (by omega) HK.out DBR.out).mono ?_); rintro e w4b ⟨a4, c4, rfl, ho4, hb4⟩; have HB4b := Lib.hid (DBB.out.trans (hb4.mono DBB.out.size)); have HO4b := Lib.hid (ho4.mono (base' := wA.heap.size) DBB.out.size); have y4b : w4b.cell? ⟨wA.heap.size, 0, none⟩ = some (.int .i64 (i : Int)) := (hb4.cell (p := ⟨wA.heap.size, 0, none⟩) hda).trans y1; have hs4b := HB4b.out.size; clear ho4 hb4)
    | (go_at_call 58; (with_reducible refine (HIH.out g5 c5 w5 hg5 (by rw [HYS.out]; exact HR5.out) HB5.out).mono ?_); rintro e w6 ⟨rfl, ov2, q2, rs2, hS6, hM6, hT6⟩; have HS6 := Lib.hid hS6; have HM6 := Lib.hid hM6; have HT6 := Lib.hid (HTk.out.trans ((StepO.of HB5.out ov1).trans hT6)); clear hS6 hM6 hT6))
  all_goals
    have HMN : Hid (rs2.map GRow.xs = rs.map GRow.xs ++ extK (lkOkB n ls) m d pre fro (i + 1)) := Lib.hid (by rw [HM6.out, HMk.out, extK_snoc hfi, List.append_assoc])
    go_wp2_with fail
    go_roundw
    case rel => exact ⟨i + 1, ov2, q2, rs2, by omega, by omega, by go_num, HS6, HMN, HT6⟩
    case measure => simp [intOf]; omega
end
open Go.RowKit
set_option maxRecDepth 100000
set_option linter.unusedVariables false
set_option linter.unusedSimpArgs false
theorem FewQ.uniq {n : Nat} {ls : List Lnk} {r r' : Nat} (h : FewQ n ls r) (h' : FewQ n ls r') : r = r' := by
  by_cases c : r < r'
  · exact absurd (h'.no r c) h.yes
  · by_cases d : r' < r
    · exact absurd (h.no r' d) h'.yes
    · omega
theorem GrA.mono {w : World} {B B' k : Nat} {v : Value} {rs : List GRow} (h : GrA w B v k rs) (hb : B' ≤ B) : GrA w B' v k rs := ⟨h.out.mono hb, fun r hr => (h.row r hr).mono hb⟩
/-- the number in a box -/
def boxN (v : Value) (w : World) : Nat := match v with
  | .pointer (some a) => (match w.cell? a with | some (.int _ x) => x.toNat | _ => 0)
  | _ => 0
theorem boxN_at {w : World} {b : Nat} {r : Nat} {t : TypeId} (h : CAt w b #[.int .i64 (r : Int)] t) : boxN (.pointer (some ⟨b, 0, none⟩)) w = r := by
  have := h.cell 0
  unfold boxN
  simp only [this]
  rfl
set_option maxHeartbeats 8000000 in
theorem wrong_any (n : Nat) (ls : List Lnk) (a : Option Addr) (m c : Nat) (w : World) (h1 : 1 ≤ n) (h10 : n ≤ 10) (hm : m ≤ 12) (hl : ls.length = m) (hok : ∀ l ∈ ls, LkOk n l) (hr : Rd Lnk.enc 3 w a ls) :
    Calls Try.prog 39 #[.int .i64 (n : Int), .slice a m c] w fun e w' => ∃ (a' : Option Addr) (k c' r : Nat) (rs : List GRow), e = .returned (.slice a' k c') ∧ rs.length = k ∧ FewQ n ls r ∧ rs.map GRow.xs = wrongL n ls r ∧ GrA w' w.heap.size (.slice a' k c') k rs ∧ Below w.heap.size w w' := by
  have HEX := Lib.hid (fun (B bn bl bs bo be r : Nat) => ext_any w.heap.size w B bn bl bs bo be r m c n a ls h1 h10 hm hl hok hr rfl)
  have HL := Lib.hid hl
  obtain ⟨hb2a, hb2b, hb2c, hb2d⟩ := bx2 w #[.int .i64 (n : Int)] #[.slice a m c] 2 42
  obtain ⟨hc1, hcb, hcs⟩ := bx1 ((w.alloc (.cells #[.int .i64 (n : Int)] 2)).alloc (.cells #[.slice a m c] 42)) #[.int .i64 0] 3
  rw [hb2d] at hc1
  have hS := hb2a.below hcb
  have hLb := hb2b.below hcb
  have hBB := hb2c.trans (hcb.mono (by omega))
  obtain ⟨w1, hw1⟩ : ∃ wx, ((w.alloc (.cells #[.int .i64 (n : Int)] 2)).alloc (.cells #[.slice a m c] 42)).alloc (.cells #[.int .i64 0] 3) = wx := ⟨_, rfl⟩
  rw [hw1] at hc1 hS hLb hBB
  obtain ⟨bs, hbs⟩ : ∃ gx, w.heap.size = gx := ⟨_, rfl⟩
  rw [hbs] at hS
  have hLb : CAt w1 (bs + 1) #[.slice a m c] 42 := by rw [← hbs]; exact hLb
  have hN0 : CAt w1 (bs + 2) #[.int .i64 ((0 : Nat) : Int)] 3 := by rw [← hbs]; exact hc1
  have HW1 := Lib.hid hw1
  have HBS := Lib.hid hbs
  have HS := Lib.hid hS
  have HLb := Lib.hid hLb
  have HN0 := Lib.hid hN0
  have HB1 := Lib.hid hBB
  clear hl hok hr hb2a hb2b hb2c hb2d hc1 hcb hcs hS hLb hBB hw1 hbs hN0
  go_enter Try.func39, Try.ntmps39
  go_wp2_with fail
  rw [HW1.out, HBS.out]
  clear HW1
  go_loopw [5] (fun pv wr => ∃ (r bn : Nat), pv = .pointer (some ⟨bn, 0, none⟩) ∧ r ≤ m ∧ Hid (∀ q, q < r → wrongL n ls q = []) ∧ Hid (CAt wr bn #[.int .i64 (r : Int)] 3) ∧ Hid (CAt wr bs #[.int .i64 (n : Int)] 2) ∧ Hid (CAt wr (bs + 1) #[.slice a m c] 42) ∧ Hid (Below bs w wr)) (fun pv wr => m + 1 - boxN pv wr)
  case atStart => exact ⟨0, bs + 2, rfl, Nat.zero_le _, Lib.hid (fun q hq => by omega), HN0, HS, HLb, Lib.hid (by rw [← HBS.out]; exact HB1.out)⟩
  case round =>
  obtain ⟨r, bn, rfl, hrm, HNO, HCN, HCS, HCL, HBr⟩ := hrel
  obtain ⟨wA, hwA⟩ : ∃ wx, wx = wr := ⟨_, rfl⟩
  subst hwA
  clear HS HLb HN0 HB1
  have hX := bx3 wA #[] #[.slice (some ⟨wA.heap.size, 0, none⟩) 0 0] #[.nilFunc] 34 32 89
  obtain ⟨hg0, hbo, hbe, hbb, hsz⟩ := hX
  have hOg := ((Ow.built GRow.enc 1 wA 34).below ((Below.refl _ _).alloc (Nat.le_refl _) (.cells #[.slice (some ⟨wA.heap.size, 0, none⟩) 0 0] 32))).below ((Below.refl _ _).alloc (Nat.le_refl _) (.cells #[.nilFunc] 89))
  obtain ⟨w3, hw3⟩ : ∃ wx, ((wA.alloc (.cells #[] 34)).alloc (.cells #[.slice (some ⟨wA.heap.size, 0, none⟩) 0 0] 32)).alloc (.cells #[.nilFunc] 89) = wx := ⟨_, rfl⟩
  rw [hw3] at hbo hbe hbb hsz hOg
  have HW3 := Lib.hid hw3
  have hbsA : bs ≤ wA.heap.size := by have h9 := HCS.out.lt; omega
  have hnA := HCN.out.lt
  have hlA := HCL.out.lt
  clear hw3 hg0
  go_upto_region 5 with (fail)
  rw [HW3.out]
  obtain ⟨be, hbE⟩ : ∃ x, wA.heap.size + 1 + 1 = x := ⟨_, rfl⟩
  rw [show wA.heap.size + 2 = be from hbE] at hbe
  rw [hbE]
  obtain ⟨bo, hbO⟩ : ∃ x, wA.heap.size + 1 = x := ⟨_, rfl⟩
  rw [hbO] at hbo
  rw [hbO]
  obtain ⟨g, hg⟩ : ∃ x, wA.heap.size = x := ⟨_, rfl⟩
  rw [hg] at hbo hOg
  rw [hg]
  have c3 : w3.cell? ⟨be, 0, none⟩ = some .nilFunc := hbe.cell 0
  have f3 : w3.frozen? ⟨be, 0, none⟩ = false := hbe.free 0
  have hcf : (store ⟨be, 0, none⟩ (.func (.func 58) #[] #[.pointer (some ⟨bn, 0, none⟩), .pointer (some ⟨bs + 1, 0, none⟩), .pointer (some ⟨bs, 0, none⟩), .pointer (some ⟨bo, 0, none⟩), .pointer (some ⟨be, 0, none⟩)])).run Try.prog w3 = .ok PUnit.unit (w3.setCell ⟨be, 0, none⟩ (.func (.func 58) #[] #[.pointer (some ⟨bn, 0, none⟩), .pointer (some ⟨bs + 1, 0, none⟩), .pointer (some ⟨bs, 0, none⟩), .pointer (some ⟨bo, 0, none⟩), .pointer (some ⟨be, 0, none⟩)])) := by
    rw [run_store Try.prog w3 _ _ _ rfl]
    simp [stored, c3, f3]
  have hof : True := trivial
  have hbe2 := hbe.set 0 (.func (.func 58) #[] #[.pointer (some ⟨bn, 0, none⟩), .pointer (some ⟨bs + 1, 0, none⟩), .pointer (some ⟨bs, 0, none⟩), .pointer (some ⟨bo, 0, none⟩), .pointer (some ⟨be, 0, none⟩)])
  have hn4 := (HCN.out.below hbb).setNe (show bn ≠ be by omega) 0 (.func (.func 58) #[] #[.pointer (some ⟨bn, 0, none⟩), .pointer (some ⟨bs + 1, 0, none⟩), .pointer (some ⟨bs, 0, none⟩), .pointer (some ⟨bo, 0, none⟩), .pointer (some ⟨be, 0, none⟩)])
  have hs4 := (HCS.out.below hbb).setNe (show bs ≠ be by omega) 0 (.func (.func 58) #[] #[.pointer (some ⟨bn, 0, none⟩), .pointer (some ⟨bs + 1, 0, none⟩), .pointer (some ⟨bs, 0, none⟩), .pointer (some ⟨bo, 0, none⟩), .pointer (some ⟨be, 0, none⟩)])
  have hl4 := (HCL.out.below hbb).setNe (show bs + 1 ≠ be by omega) 0 (.func (.func 58) #[] #[.pointer (some ⟨bn, 0, none⟩), .pointer (some ⟨bs + 1, 0, none⟩), .pointer (some ⟨bs, 0, none⟩), .pointer (some ⟨bo, 0, none⟩), .pointer (some ⟨be, 0, none⟩)])
  have ho4 := hbo.setNe (show bo ≠ be by omega) 0 (.func (.func 58) #[] #[.pointer (some ⟨bn, 0, none⟩), .pointer (some ⟨bs + 1, 0, none⟩), .pointer (some ⟨bs, 0, none⟩), .pointer (some ⟨bo, 0, none⟩), .pointer (some ⟨be, 0, none⟩)])
  have hg4 := hOg.setOtherL (g := be) (by simp [Value.ownBlock]; omega) 0 (.func (.func 58) #[] #[.pointer (some ⟨bn, 0, none⟩), .pointer (some ⟨bs + 1, 0, none⟩), .pointer (some ⟨bs, 0, none⟩), .pointer (some ⟨bo, 0, none⟩), .pointer (some ⟨be, 0, none⟩)])
  have hb4 := (HBr.out.trans (hbb.mono hbsA)).setCell (p := ⟨be, 0, none⟩) (show bs ≤ be by omega) (.func (.func 58) #[] #[.pointer (some ⟨bn, 0, none⟩), .pointer (some ⟨bs + 1, 0, none⟩), .pointer (some ⟨bs, 0, none⟩), .pointer (some ⟨bo, 0, none⟩), .pointer (some ⟨be, 0, none⟩)])
  have hbe2 : CAt (w3.setCell ⟨be, 0, none⟩ (.func (.func 58) #[] #[.pointer (some ⟨bn, 0, none⟩), .pointer (some ⟨bs + 1, 0, none⟩), .pointer (some ⟨bs, 0, none⟩), .pointer (some ⟨bo, 0, none⟩), .pointer (some ⟨be, 0, none⟩)])) be #[(.func (.func 58) #[] #[.pointer (some ⟨bn, 0, none⟩), .pointer (some ⟨bs + 1, 0, none⟩), .pointer (some ⟨bs, 0, none⟩), .pointer (some ⟨bo, 0, none⟩), .pointer (some ⟨be, 0, none⟩)])] 89 := hbe2
  obtain ⟨w4, hw4⟩ : ∃ wx, w3.setCell ⟨be, 0, none⟩ (.func (.func 58) #[] #[.pointer (some ⟨bn, 0, none⟩), .pointer (some ⟨bs + 1, 0, none⟩), .pointer (some ⟨bs, 0, none⟩), .pointer (some ⟨bo, 0, none⟩), .pointer (some ⟨be, 0, none⟩)]) = wx := ⟨_, rfl⟩
  have hsz4 : w4.heap.size = wA.heap.size + 3 := by rw [← hw4]; simp [World.setCell]; exact hsz
  rw [hw4] at hn4 hs4 hl4 ho4 hg4 hb4 hbe2
  have HW4 := Lib.hid hw4
  have HE1 : Hid (bn < g ∧ bs + 1 < g ∧ g < bo ∧ bo < be ∧ g < w4.heap.size ∧ bs ≤ g) := Lib.hid ⟨by omega, by omega, by omega, by omega, by omega, by omega⟩
  have hbE' := Lib.hid hbE
  have hbO' := Lib.hid hbO
  have hg' := Lib.hid hg
  clear hw4 hbo hbb hsz hOg hbe hbE hbO hg HW3
  go_upto_region 6 with (fail)
  rw [HW4.out]
  obtain ⟨k1, k2, k3, k4, k5, k6⟩ := HE1.out
  clear c3 f3 HW4 hsz4 hcf hof
  have HGRA : Hid (GrA w4 g (.slice (some ⟨g, 0, none⟩) 0 0) 0 []) := Lib.hid ⟨hg4, fun r hr => by cases hr⟩
  have HST : Hid (WSt w.heap.size w w4 g bn (bs + 1) bs bo be r m c n a (.slice (some ⟨g, 0, none⟩) 0 0) 0 []) := Lib.hid ⟨hn4, hl4, hs4, hbe2, ho4, HGRA.out, ⟨by omega, by omega, by omega, by omega⟩, by rw [HBS.out]; exact hb4, by rw [HBS.out]; omega, by rw [HBS.out]; omega⟩
  have HCALL := Lib.hid (HEX.out g bn (bs + 1) bs bo be r r [] 0 0 0 0 none (.slice (some ⟨g, 0, none⟩) 0 0) [] w4 rfl (by omega) (by omega) trivial (by
    have h9 := wrongL_len n ls r
    have h8 : 2 ^ ls.length ≤ 2 ^ 12 := Nat.pow_le_pow_right (by decide) (by rw [HL.out]; omega)
    have h7 : extL (lkOkB n ls) m r [] 0 = wrongL n ls r := by unfold wrongL; rw [HL.out]
    rw [h7]; omega) (Rd.nil _ _ _ _) (fun b o p e => by cases e) HST.out (by omega))
  have x0 : w4.cell? ⟨be, 0, none⟩ = some (.func (.func 58) #[] #[.pointer (some ⟨bn, 0, none⟩), .pointer (some ⟨bs + 1, 0, none⟩), .pointer (some ⟨bs, 0, none⟩), .pointer (some ⟨bo, 0, none⟩), .pointer (some ⟨be, 0, none⟩)]) := hbe2.cell 0
  clear hn4 hs4 hl4 ho4 hg4 hb4 hbe2 HGRA hbE' hbO' hg'
  go_wp2_with fail
  refine (HCALL.out).mono ?_
  rintro e w5 ⟨rfl, ov, q, rs, hS5, hM5, hT5⟩
  have HM5 : Hid (rs.map GRow.xs = wrongL n ls r) := Lib.hid (by rw [hM5, List.map_nil, List.nil_append]; unfold wrongL; rw [HL.out])
  have HS5 := Lib.hid hS5
  have hql := hS5.gr.out.len GRow.len (by decide)
  obtain ⟨ao, co, hov⟩ := hS5.gr.out.shape
  subst hov
  have z0 : w5.cell? ⟨bo, 0, none⟩ = some (.slice ao q co) := hS5.co.cell 0
  have z1 : w5.cell? ⟨bn, 0, none⟩ = some (.int .i64 (r : Int)) := hS5.cn.cell 0
  have HQL := Lib.hid hql
  clear hS5 hM5 hT5 hql HCALL x0
  by_cases hq0 : 0 < q
  · have dq : decide ((0 : Int) < (q : Int)) = true := decide_eq_true (by omega)
    have dqn : decide (0 < q) = true := decide_eq_true hq0
    have HFW : Hid (FewQ n ls r) := Lib.hid ⟨HNO.out, fun h => by
      have h9 := HM5.out
      rw [h] at h9
      have h8 := HQL.out
      rw [List.map_eq_nil_iff.1 h9] at h8
      simp at h8; omega⟩
    have HGR := Lib.hid (HS5.out.gr.mono (show w.heap.size ≤ g by rw [HBS.out]; exact k6))
    clear hq0
    go_wp2_with fail
    go_ret
    exact ⟨_, _, _, r, rs, rfl, HQL.out, HFW.out, HM5.out, HGR.out, HS5.out.b⟩
  · have dq : decide ((0 : Int) < (q : Int)) = false := decide_eq_false (by omega)
    have dqn : decide (0 < q) = false := decide_eq_false hq0
    have HN2 : Hid (∀ q, q < r + 1 → wrongL n ls q = []) := Lib.hid fun q2 hq2 => by
      by_cases h9 : q2 < r
      · exact HNO.out q2 h9
      · obtain rfl : q2 = r := by omega
        have h8 := HQL.out
        have h7 : rs = [] := List.eq_nil_of_length_eq_zero (by omega)
        rw [← HM5.out, h7]; rfl
    have hr1 : r + 1 ≤ m := by have h9 := few_bound HN2.out; rw [HL.out] at h9; exact h9
    have hb6 := (Below.refl w5.heap.size w5).alloc (Nat.le_refl _) (.cells #[.int .i64 ((r : Int) + 1)] 3)
    have hn7 : CAt (w5.alloc (.cells #[.int .i64 ((r : Int) + 1)] 3)) w5.heap.size #[.int .i64 ((r + 1 : Nat) : Int)] 3 := by
      rw [show ((r + 1 : Nat) : Int) = (r : Int) + 1 by omega]; exact CAt.new _ _ _
    have hn6 := CAt.new w5 #[.int .i64 (r : Int)] 3
    have hw5s : bs ≤ w5.heap.size := by have h9 := HS5.out.cs.lt; omega
    have hs7 := HS5.out.cs.below hb6
    have hl7 := HS5.out.cl.below hb6
    have hB5 := HS5.out.b
    rw [HBS.out] at hB5
    have hb7 := hB5.trans (hb6.mono hw5s)
    have t0 : (w5.alloc (.cells #[.int .i64 (r : Int)] 3)).cell? ⟨w5.heap.size, 0, none⟩ = some (.int .i64 (r : Int)) := hn6.cell 0
    have t1 : (w5.alloc (.cells #[.int .i64 (r : Int)] 3)).frozen? ⟨w5.heap.size, 0, none⟩ = false := hn6.free 0
    have i1 : IntKind.i64.wrap ((r : Int) + 1) = (r : Int) + 1 := IntWalk.i64_in _ (by omega)
    have HN7 := Lib.hid hn7
    have HS7 := Lib.hid hs7
    have HL7 := Lib.hid hl7
    have HB7 := Lib.hid hb7
    have HBX0 := boxN_at HCN.out
    clear hb6 hn6 hn7 hs7 hl7 hB5 hb7 hq0
    go_wp2_with fail
    go_roundw
    case rel => exact ⟨r + 1, w5.heap.size, rfl, hr1, HN2, HN7, HS7, HL7, HB7⟩
    case measure => simp only [HBX0]; rw [boxN_at HN7.out]; omega
open Go.RowKit
set_option maxRecDepth 100000
set_option linter.unusedVariables false
set_option linter.unusedSimpArgs false
theorem FewQ.some0 {n : Nat} {ls : List Lnk} {r : Nat} (h : FewQ n ls r) {rs : List GRow} (hm : rs.map GRow.xs = wrongL n ls r) : ∃ r0, rs[0]? = some r0 ∧ (wrongL n ls r)[0]? = some r0.xs := by
  cases rs with
  | nil => exact absurd hm.symm h.yes
  | cons x t => exact ⟨x, rfl, by rw [← hm]; rfl⟩
set_option maxHeartbeats 2000000 in
theorem fewest_any (n : Nat) (ls : List Lnk) (a : Option Addr) (m c : Nat) (w : World) (h1 : 1 ≤ n) (h10 : n ≤ 10) (hm : m ≤ 12) (hl : ls.length = m) (hok : ∀ l ∈ ls, LkOk n l) (hr : Rd Lnk.enc 3 w a ls) :
    Calls Try.prog 14 #[.int .i64 (n : Int), .slice a m c] w fun e w' => ∃ (a' : Option Addr) (k c' r : Nat) (c0 : List Int), e = .returned (.tuple #[.slice a' k c', .int .i64 0]) ∧ FewQ n ls r ∧ (wrongL n ls r)[0]? = some c0 ∧ c0.length = k ∧ Rd eI 1 w' a' c0 ∧ Below w.heap.size w w' := by
  have HL := Lib.hid hl
  have HO := Lib.hid hok
  have HR := Lib.hid hr
  clear hl hok hr
  go_enter Try.func14, Try.ntmps14
  go_wp2_with fail
  refine (validLinks_ok n ls a m c _ h1 h10 hm HL.out HO.out HR.out).mono ?_
  rintro e w1 ⟨rfl, hb1⟩
  go_wp2_with fail
  refine (wrong_any n ls a m c _ h1 h10 hm HL.out HO.out (HR.out.below hb1)).mono ?_
  rintro e w2 ⟨a2, k2, c2, r, rs, rfl, hk, hfw, hmap, hgr, hb2⟩
  obtain ⟨r0, hr0, hw0⟩ := hfw.some0 hmap
  obtain ⟨hg1, hg2⟩ := hgr.rd
  obtain ⟨q1, q2⟩ := hg2 r0 (List.mem_of_getElem? hr0)
  have hkp : 0 < k2 := by rw [← hk]; exact (List.getElem?_eq_some_iff.1 hr0).1
  obtain ⟨bG, oG, hab, hC⟩ := hg1.addr1 (f := fun r : GRow => Value.slice r.a r.n r.c) (by omega) (fun _ => rfl)
  subst hab
  have y0 : w2.cell? ⟨bG, oG, none⟩ = some (.slice r0.a r0.n r0.c) := by have h9 := hC 0 r0 hr0 w2 (Below.refl _ _); rwa [Nat.add_zero] at h9
  have j0 : (0 : Int) < (k2 : Nat) := by omega
  have HB := Lib.hid (hb1.trans (hb2.mono hb1.size))
  have HQ1 := Lib.hid q1
  have HQ2 := Lib.hid q2
  have HFW := Lib.hid hfw
  have HW0 := Lib.hid hw0
  clear hk hmap hgr hb2 hr0 hg1 hg2 hC hb1 q1 q2 hfw hw0
  go_wp2_with fail
  go_ret2
  exact ⟨_, _, _, r, r0.xs, rfl, HFW.out, HW0.out, HQ2.out, HQ1.out, HB.out⟩
set_option maxHeartbeats 1000000 in
theorem a2Has_any (l : List Int) (x : Int) (a : Option Addr) (n c : Nat) (w : World) (hn : n ≤ 1000000) (hl : l.length = n) (hr : Rd eI 1 w a l) : Calls Try.prog 42 #[.slice a n c, .int .i64 x] w fun e w' => e = .returned (.bool (l.contains x)) ∧ w = w' := by
  have HL := Lib.hid hl
  have HR := Lib.hid hr
  clear hl hr
  go_enter Try.func42, Try.ntmps42
  go_wp2_with fail
  go_loopw [5] (fun i wr => ∃ k : Nat, k ≤ n ∧ i = .int .i64 k ∧ Hid ((l.take k).contains x = false) ∧ w = wr) (fun i _ => n - (intOf i).toNat)
  case atStart => exact ⟨0, Nat.zero_le _, rfl, Lib.hid (by simp), rfl⟩
  case round =>
  obtain ⟨k, hk, rfl, HK, rfl⟩ := hrel
  by_cases hlt : k < n
  · obtain ⟨y, hy⟩ : ∃ z, l[k]? = some z := ⟨_, List.getElem?_eq_getElem (by rw [HL.out]; exact hlt)⟩
    obtain ⟨b, oo, he, hc⟩ := HR.out.at1 hy (u := .int .i64 y) rfl
    subst he
    have x0 := hc.2
    have j0 : (0 : Int) ≤ (k : Nat) := by omega
    have j1 : ((k : Nat) : Int) < (n : Nat) := by omega
    by_cases hyx : y = x
    · have dy : (y == x) = true := beq_iff_eq.2 hyx
      have HT : Hid (l.contains x = true) := Lib.hid (by rw [← hyx]; simpa using List.mem_of_getElem? hy)
      clear hy hc hyx
      go_wp2_with fail
      go_ret
      exact ⟨by rw [HT.out]; rfl, rfl⟩
    · have dy : (y == x) = false := beq_eq_false_iff_ne.2 hyx
      have HN : Hid ((l.take (k + 1)).contains x = false) := Lib.hid (by
        rw [take_sn hy]
        have h9 := HK.out
        have h8 : ¬ x = y := fun e => hyx e.symm
        simp only [List.contains_eq_mem, decide_eq_false_iff_not] at h9 ⊢
        simp [h9, h8])
      clear hy hc hyx
      go_wp2_with fail
      go_roundw
      case rel => exact ⟨k + 1, by omega, by go_num, HN, by first | rfl | trivial⟩
      case measure => simp [intOf]; omega
  · obtain rfl : n = k := by omega
    have HF : Hid (l.contains x = false) := Lib.hid (by have h9 := HK.out; rwa [List.take_of_length_le (by rw [HL.out]; omega)] at h9)
    go_wp2_with fail
    go_ret
    exact ⟨by rw [HF.out]; rfl, rfl⟩
set_option maxHeartbeats 2000000 in
theorem a2Less_any (ls : List Lnk) (l : List Int) (a b : Option Addr) (m c n d : Nat) (w : World) (hm : m ≤ 12) (hn : n ≤ 1000000) (hls : ls.length = m) (hl : l.length = n) (hra : Rd Lnk.enc 3 w a ls) (hrb : Rd eI 1 w b l) : Calls Try.prog 17 #[.slice a m c, .slice b n d] w fun e w' => ∃ (a' : Option Addr) (k c' : Nat), e = .returned (.slice a' k c') ∧ (lessL l 0 ls).length = k ∧ Rd Lnk.enc 3 w' a' (lessL l 0 ls) ∧ Below w.heap.size w w' := by
  have HLS := Lib.hid hls
  have HL := Lib.hid hl
  have HRA := Lib.hid hra
  have HRB := Lib.hid hrb
  have hG := Ow.built Lnk.enc 3 w 75
  have hbA := below_built w 75
  obtain ⟨w1, hw1⟩ : ∃ wx, w.alloc (.cells #[] 75) = wx := ⟨_, rfl⟩
  obtain ⟨B1, hB1⟩ : ∃ gx, w.heap.size = gx := ⟨_, rfl⟩
  have hB1s : B1 ≤ w1.heap.size := by rw [← hw1, ← hB1]; simp
  rw [hw1] at hG hbA
  rw [hB1] at hG
  have HG := Lib.hid hG
  have HBA := Lib.hid hbA
  have HW1 := Lib.hid hw1
  have HB1 := Lib.hid hB1
  clear hls hl hra hrb hG hbA hw1 hB1
  go_enter Try.func17, Try.ntmps17
  go_upto_region 2 with (fail)
  rw [HW1.out, HB1.out]
  clear HW1
  go_wp2_with fail
  go_loopw [5, 6] (fun ov i wr => ∃ (k N : Nat) (a' : Option Addr) (c' : Nat), k ≤ m ∧ N ≤ k ∧ i = .int .i64 k ∧ ov = .slice a' N c' ∧ Hid (Ow Lnk.enc 3 wr B1 75 (.slice a' N c') N (lessL l 0 (ls.take k))) ∧ B1 ≤ wr.heap.size ∧ Hid (Below w.heap.size w wr)) (fun _ i _ => m - (intOf i).toNat)
  case atStart => exact ⟨0, 0, _, _, Nat.zero_le _, Nat.le_refl _, rfl, rfl, HG, hB1s, HBA⟩
  case round =>
  obtain ⟨k, N, a', c', hk, hN, rfl, rfl, HOk, hBs, HBk⟩ := hrel
  obtain ⟨wA, hwA⟩ : ∃ wx, wx = wr := ⟨_, rfl⟩
  subst hwA
  clear HG HBA hB1s
  by_cases hlt : k < m
  case neg =>
    obtain rfl : m = k := by omega
    have HE : Hid (ls.take m = ls) := Lib.hid (List.take_of_length_le (by rw [HLS.out]; omega))
    rw [HE.out] at HOk
    have h7 := HOk.out.len Lnk.len (by decide)
    have h8 := HOk.out.rd Lnk.len (by decide)
    have H7 := Lib.hid h7
    have H8 := Lib.hid h8
    clear h7 h8
    go_wp2_with fail
    go_ret
    exact ⟨_, _, _, rfl, H7.out, H8.out, HBk.out⟩
  obtain ⟨x, hx⟩ : ∃ z, ls[k]? = some z := ⟨_, List.getElem?_eq_getElem (by rw [HLS.out]; exact hlt)⟩
  have HSN : Hid (lessL l 0 (ls.take (k + 1)) = lessL l 0 (ls.take k) ++ if l.contains (k : Int) = true then [] else [x]) := Lib.hid (by rw [take_sn hx, lessL_snoc, Nat.zero_add, List.length_take, Nat.min_eq_left (by rw [HLS.out]; omega)])
  obtain ⟨b1, o1, hab, hC⟩ := (HRA.out.below HBk.out).addr (by rw [HLS.out]; omega)
  subst hab
  have x0 := hC k x hx _ (Below.refl _ _) 0 _ rfl
  rw [Nat.add_zero] at x0
  have x1 := hC k x hx _ (Below.refl _ _) 1 _ rfl
  have x2 := hC k x hx _ (Below.refl _ _) 2 _ rfl
  have j0 : (0 : Int) ≤ (k : Nat) := by omega
  have j1 : ((k : Nat) : Int) < (m : Nat) := by omega
  have h63 : N + 1 ≤ maxLen := by unfold maxLen; omega
  have hby : (N + 1) * 24 ≤ 140737488355328 := by omega
  clear hC hx
  cases hc : l.contains (k : Int) with
  | true =>
    have HC := Lib.hid hc
    clear hc
    go_wp2_with fail
    refine (a2Has_any l (k : Int) b n d _ hn HL.out (HRB.out.below HBk.out)).mono ?_
    rintro e wz ⟨rfl, rfl⟩
    rw [HC.out]
    go_wp2_with fail
    go_roundw
    case rel => exact ⟨k + 1, N, a', c', by omega, by omega, by go_num, rfl, Lib.hid (by rw [HSN.out, HC.out]; simpa using HOk.out), hBs, HBk⟩
    case measure => simp [intOf]; omega
  | false =>
    have HC := Lib.hid hc
    clear hc
    obtain ⟨ys, hys⟩ : ∃ ys, lessL l 0 (ls.take k) ++ [x] = ys := ⟨_, rfl⟩
    have HYS := Lib.hid hys
    have HYE : Hid (lessL l 0 (ls.take (k + 1)) = ys) := Lib.hid (by rw [HSN.out, HC.out, ← hys]; rfl)
    clear hys
    go_wp2_with fail
    refine (a2Has_any l (k : Int) b n d _ hn HL.out (HRB.out.below HBk.out)).mono ?_
    rintro e wz ⟨rfl, rfl⟩
    rw [HC.out]
    go_wp2_with (at_builtin; refine wpl_app Lnk.len (by decide) _ rfl (.tmp 18) (.tmp 23) 42 rfl 75 _ 24 rfl Try.underlying42 Try.info75 B1 _ N _ rfl wA _ _ rfl HOk.out x rfl rfl (Lnk.one _) h63 hby hBs ys HYS ?_)
    intro a6 c6 w6 ho6 hb6 hs6
    have HO6 : Hid (Ow Lnk.enc 3 w6 B1 75 (.slice a6 (N + 1) c6) (N + 1) (lessL l 0 (ls.take (k + 1)))) := Lib.hid (by rw [HYE.out]; exact ho6)
    have HB6 := Lib.hid (HBk.out.trans (hb6.mono (by rw [HB1.out]; exact Nat.le_refl _)))
    have hB6 : B1 ≤ w6.heap.size := by omega
    clear ho6 hb6 hs6
    go_wp2_with fail
    go_roundw
    case rel => exact ⟨k + 1, N + 1, a6, c6, by omega, by omega, by go_num, rfl, HO6, hB6, HB6⟩
    case measure => simp [intOf]; omega
end Go.Proofs.Ytcebjjkckfopiaa
