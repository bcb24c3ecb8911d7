/-
  PlanSlots: the whole plan.
-/
import Derived.Test.YtababgnlogfphaaReq5
import Derived.Test.YtababgnlogfphaaWhere
namespace Go.Proofs.Ytababgnlogfphaa
open Go.RowKit
set_option maxRecDepth 100000

theorem ne_of_lt {α : Type} {enc : α → List Value} {k : Nat} {w : World} {base e n g : Nat} {v : Value} {xs : List α} (h : Ow enc k w base e v n xs) (hg : g < base) : v.ownBlock = none ∨ v.ownBlock ≠ some g := by
  by_cases hv : v.ownBlock = none
  · exact Or.inl hv
  · refine Or.inr fun e => ?_
    have := (h.lt g e).1
    omega

def srvAt (rs : List Req) (k : Option Nat) : List Req := match k with
  | none => rs
  | some i => match rs[i]? with | some x => rs.set i { x with done := x.done + 1 } | none => rs
theorem srvAt_len (rs : List Req) (k : Option Nat) : (srvAt rs k).length = rs.length := by
  unfold srvAt
  split
  · rfl
  · split <;> simp
theorem srvAt_ok {rs : List Req} {t : Int} {k : Option Nat} (hk : nxtV rs t = k) (h : ∀ v ∈ rs, Req.Ok v) : ∀ v ∈ srvAt rs k, Req.Ok v := by
  cases k with
  | none => exact h
  | some i =>
    obtain ⟨_, x, hx, ho⟩ := nxt_some hk
    have e : srvAt rs (some i) = rs.set i { x with done := x.done + 1 } := by simp [srvAt, hx]
    rw [e]
    intro v hv
    rcases List.mem_or_eq_of_mem_set hv with hv | rfl
    · exact h v hv
    · have h1 := h x (List.mem_of_getElem? hx)
      simp only [Bool.and_eq_true, opnB, decide_eq_true_eq] at ho
      obtain ⟨h0, h1, h2, h3, h4, h5⟩ := h1
      refine ⟨h0, h1, h2, h3, ?_, h5⟩
      show I64 (x.done + 1)
      unfold I64 at *
      omega
def planF (st : List Req × List Int) (t : Int) : List Req × List Int := (srvAt st.1 (nxtV st.1 t), st.2 ++ [findZ (nxtV st.1 t)])
def planK (rs : List Req) (ts : List Int) (k : Nat) : List Req × List Int := (ts.take k).foldl planF (rs, [])
theorem planK_step {rs : List Req} {ts : List Int} {k : Nat} {t : Int} (h : ts.take (k + 1) = ts.take k ++ [t]) : planK rs ts (k + 1) = planF (planK rs ts k) t := by
  unfold planK; rw [h, List.foldl_append]; rfl
theorem planK_len (rs : List Req) (ts : List Int) (k : Nat) : (planK rs ts k).1.length = rs.length := by
  unfold planK
  suffices ∀ (us : List Int) (st : List Req × List Int), (us.foldl planF st).1.length = st.1.length from this _ _
  intro us
  induction us with
  | nil => intro st; rfl
  | cons u us ih => intro st; rw [List.foldl_cons, ih]; exact srvAt_len _ _
theorem planK_ok {rs : List Req} {ts : List Int} {k : Nat} (h : ∀ v ∈ rs, Req.Ok v) : ∀ v ∈ (planK rs ts k).1, Req.Ok v := by
  unfold planK
  suffices ∀ (us : List Int) (st : List Req × List Int), (∀ v ∈ st.1, Req.Ok v) → ∀ v ∈ (us.foldl planF st).1, Req.Ok v from this _ _ h
  intro us
  induction us with
  | nil => intro st h; exact h
  | cons u us ih => intro st h; rw [List.foldl_cons]; exact ih _ (srvAt_ok rfl h)
def planC (rs : List Req) (ts : List Int) : Int := if reqsB rs = true then (if timesB ts 100 = true then 0 else 2) else 1
def planL (rs : List Req) (ts : List Int) : List Int := if planC rs ts = 0 then (planK rs ts ts.length).2 else []
theorem planC_bad {rs : List Req} {ts : List Int} (h : reqsB rs = false) : planC rs ts = 1 := by simp [planC, h]
theorem planC_no {rs : List Req} {ts : List Int} (h : reqsB rs = true) (h2 : timesB ts 100 = false) : planC rs ts = 2 := by simp [planC, h, h2]
theorem planC_ok {rs : List Req} {ts : List Int} (h : reqsB rs = true) (h2 : timesB ts 100 = true) : planC rs ts = 0 := by simp [planC, h, h2]

section
variable (rs : List Req) (ts : List Int) (a0 a1 : Option Addr) (n0 n1 c0 c1 : Nat) (w : World) (hn0 : n0 ≤ 1048576) (hn1 : n1 ≤ 1048576) (hl0 : rs.length = n0) (hl1 : ts.length = n1) (ho : ∀ v ∈ rs, Req.Ok v) (hr0 : Rd Req.enc 6 w a0 rs) (hr1 : Rd eI 1 w a1 ts)
include hn0 hn1 hl0 hl1 ho hr0 hr1

set_option maxHeartbeats 4000000 in
theorem specPlan : Calls Try.prog 22 #[.slice a0 n0 c0, .slice a1 n1 c1] w fun e w' => ∃ a' n' c', e = .returned (.tuple #[.slice a' n' c', .int .i64 (planC rs ts)]) ∧ n' ≤ 1048576 ∧ Ow eI 1 w' w.heap.size 2 (.slice a' n' c') n' (planL rs ts) ∧ Below w.heap.size w w' := by
  have HL := Lib.hid hl0
  have HM := Lib.hid hl1
  have HO := Lib.hid ho
  clear hl0 hl1 ho
  cases hv : reqsB rs with
  | false =>
    have HN : Hid (planL rs ts = []) := Lib.hid (by rw [planL, planC_bad hv]; rfl)
    rw [planC_bad hv]
    have HV := Lib.hid hv
    clear hv
    go_enter Try.func22, Try.ntmps22
    go_wp2_with fail
    refine (l22Ok_any rs a0 n0 c0 _ hn0 HL.out HO.out hr0).mono ?_
    rintro e w1 ⟨rfl, hb⟩
    rw [HV.out]
    go_wp2_with fail
    go_ret2
    exact ⟨none, 0, 0, rfl, by omega, by rw [HN.out]; exact Ow.nil _ _ _, hb⟩
  | true =>
  by_cases h100 : n1 ≤ 100
  case neg =>
    have ht : timesB ts 100 = false := by rw [timesB, HM.out]; simp [h100]
    have HN : Hid (planL rs ts = []) := Lib.hid (by rw [planL, planC_no hv ht]; rfl)
    rw [planC_no hv ht]
    have HV := Lib.hid hv
    have d0 : decide (100 < n1) = true := by simp; omega
    have d1 : decide ((100 : Int) < (n1 : Int)) = true := by simp; omega
    clear hv ht
    go_enter Try.func22, Try.ntmps22
    go_wp2_with fail
    refine (l22Ok_any rs a0 n0 c0 _ hn0 HL.out HO.out hr0).mono ?_
    rintro e w1 ⟨rfl, hb⟩
    rw [HV.out]
    go_wp2_with fail
    go_ret2
    exact ⟨none, 0, 0, rfl, by omega, by rw [HN.out]; exact Ow.nil _ _ _, hb⟩
  have d0 : decide (100 < n1) = false := by simp; omega
  have d1 : decide ((100 : Int) < (n1 : Int)) = false := by simp; omega
  have ht1 : timesB ts 100 = risesB ts 0 10000000 := by rw [timesB, HM.out]; simp [h100]
  cases ht : risesB ts 0 10000000 with
  | false =>
    rw [ht] at ht1
    have HN : Hid (planL rs ts = []) := Lib.hid (by rw [planL, planC_no hv ht1]; rfl)
    rw [planC_no hv ht1]
    have HV := Lib.hid hv
    have HT := Lib.hid ht
    clear hv ht ht1
    go_enter Try.func22, Try.ntmps22
    go_wp2_with fail
    refine (l22Ok_any rs a0 n0 c0 _ hn0 HL.out HO.out hr0).mono ?_
    rintro e w1 ⟨rfl, hb⟩
    rw [HV.out]
    go_wp2_with fail
    refine (l00Rises_any ts 0 10000000 a1 n1 c1 _ hn1 HM.out (hr1.below hb)).mono ?_
    rintro e w2 ⟨rfl, hb2⟩
    rw [HT.out]
    go_wp2_with fail
    go_ret2
    exact ⟨none, 0, 0, rfl, by omega, by rw [HN.out]; exact Ow.nil _ _ _, hb.trans (hb2.mono hb.size)⟩
  | true =>
  rw [ht] at ht1
  have HN : Hid (planL rs ts = (planK rs ts n1).2) := Lib.hid (by rw [planL, planC_ok hv ht1, HM.out]; rfl)
  rw [planC_ok hv ht1]
  have HV := Lib.hid hv
  have HT := Lib.hid ht
  clear hv ht ht1
  go_enter Try.func22, Try.ntmps22
  go_wp2_with fail
  refine (l22Ok_any rs a0 n0 c0 _ hn0 HL.out HO.out hr0).mono ?_
  rintro e w1 ⟨rfl, hb⟩
  rw [HV.out]
  go_wp2_with fail
  refine (l00Rises_any ts 0 10000000 a1 n1 c1 _ hn1 HM.out (hr1.below hb)).mono ?_
  rintro e w2 ⟨rfl, hb2⟩
  rw [HT.out]
  have hbW := hb.trans (hb2.mono hb.size)
  have hrA := hr0.below hbW
  have hrB := hr1.below hbW
  have HBW := Lib.hid hbW
  clear hr0 hr1 hb hb2 hbW d0 d1 h100
  have hb0 := below_built w2 53
  have hoB := Ow.built Req.enc 6 w2 53
  have hr' := hrA.below hb0
  have hsz : w2.heap.size ≤ (w2.alloc (.cells #[] 53)).heap.size := hb0.size
  have hm0 : 0 + n0 ≤ maxLen := by unfold maxLen; omega
  have hm1 : (0 + n0) * 56 ≤ 140737488355328 := by omega
  have hy : Hid ([] ++ rs = rs) := Lib.hid rfl
  go_wp2_with (at_builtin; refine wpl_apps Req.len (by decide) Req.one _ rfl (.tmp 21) (.tmp 22) 24 rfl 53 _ 56 rfl Try.underlying24 copyInfo53 w2.heap.size _ 0 _ rfl hoB rs n0 HL.out _ c0 rfl hr' hm0 hm1 hsz rs hy ?_)
  intro a' c' w3 ho3 hb4
  have hbS := hb0.trans hb4
  have HBS := Lib.hid hbS
  clear hrA hr' hoB hb0 hb4 hsz hm0 hm1 hy hbS
  have HLT := Lib.hid ho3.lt
  go_wp2_with fail
  go_loopw [7, 8] (fun o i wr => ∃ k : Nat, ∃ a2 c2, k ≤ n1 ∧ i = .int .i64 k ∧ o = .slice a2 k c2 ∧ Ow Req.enc 6 wr w2.heap.size 53 (.slice a' n0 c') n0 (planK rs ts k).1 ∧ Ow eI 1 wr w3.heap.size 2 (.slice a2 k c2) k (planK rs ts k).2 ∧ Below w2.heap.size w2 wr ∧ w3.heap.size ≤ wr.heap.size) (fun _ i _ => n1 - (intOf i).toNat)
  case atStart => exact ⟨0, _, _, Nat.zero_le _, rfl, rfl, ho3.below (below_built _ _), Ow.built _ _ _ _, HBS.out.trans ((below_built _ _).mono HBS.out.size), (below_built _ _).size⟩
  case round =>
    obtain ⟨k, a2, c2, hk, rfl, rfl, hoA, hoI, hb6, hs5⟩ := hrel
    clear ho3
    by_cases hlt : k < n1
    · obtain ⟨t, ht, htk⟩ := take_snoc' ts k (by rw [HM.out]; omega)
      have HP := Lib.hid (planK_step (rs := rs) htk)
      have hLn : (planK rs ts k).1.length = n0 := by rw [planK_len]; exact HL.out
      have hOk := planK_ok (ts := ts) (k := k) HO.out
      obtain ⟨b, o, rfl, hbl, hc⟩ := (hrB.below hb6) k t ht
      have c0' := hc 0 _ rfl
      rw [Nat.add_zero, Nat.mul_one] at c0'
      have h63 : k + 1 ≤ maxLen := by unfold maxLen; omega
      have hby : (k + 1) * 8 ≤ 140737488355328 := by omega
      obtain ⟨LL, OO, hst⟩ : ∃ LL OO, planK rs ts k = (LL, OO) := ⟨_, _, rfl⟩
      rw [hst] at HP hLn hOk hoA hoI
      simp only at hLn hOk hoA hoI
      have HLn := Lib.hid hLn
      have HOk := Lib.hid hOk
      clear hc ht htk hst hLn hOk hrB
      go_wp2_with fail
      refine (l22Next_any LL t _ n0 c' _ hn0 HLn.out (hoA.rd Req.len (by decide))).mono ?_
      rintro e wq ⟨rfl, hbq⟩
      have hoAq := hoA.below hbq
      have hoIq := hoI.below hbq
      have hb6q := hb6.trans (hbq.mono hb6.size)
      have hsq : w3.heap.size ≤ wq.heap.size := Nat.le_trans hs5 hbq.size
      clear hoA hoI hb6 hs5 hbq c0'
      cases hnx : nxtV LL t with
      | none =>
        have HY : Hid (OO ++ [(-1 : Int)] = (planK rs ts (k + 1)).2) := Lib.hid (by rw [HP.out, planF, hnx]; rfl)
        have HA : Hid (LL = (planK rs ts (k + 1)).1) := Lib.hid (by rw [HP.out, planF, hnx]; rfl)
        rw [show findZ none = -1 from rfl]
        rw [HA.out] at hoAq
        clear hnx
        go_wp2_with (at_builtin; refine wpl_app eI_len (by decide) _ rfl (.tmp 47) (.tmp 49) 31 rfl 2 (.int .i64 0) 8 rfl Try.underlying31 infoI64 w3.heap.size _ k _ rfl wq _ 2 rfl hoIq (-1 : Int) rfl rfl (eI_one _) h63 hby hsq _ HY ?_)
        intro a4 c4 w6 hoI6 hb8 _
        have hoA6 := hoAq.upto (fun b h => (HLT.out b h).2) hb8
        have hb9 := hb6q.trans (hb8.mono HBS.out.size)
        have hs9 : w3.heap.size ≤ w6.heap.size := Nat.le_trans hsq hb8.size
        go_wp2_with fail
        go_roundw
        case rel => exact ⟨k + 1, a4, c4, by omega, by go_num, by simp, hoA6, hoI6, hb9, hs9⟩
        case measure => simp [intOf]; omega
      | some j =>
        obtain ⟨hj1, x, hx, hop⟩ := nxt_some hnx
        have hxo := HOk.out x (List.mem_of_getElem? hx)
        have i0 := opn_wrap hxo hop
        obtain ⟨g, rfl, hg1, hg2⟩ := hoAq.at_ (by have := HLn.out; omega)
        obtain ⟨g', o', he, _, hc⟩ := (hoAq.rd Req.len (by decide)) j x hx
        simp only [Option.some.injEq, Addr.mk.injEq, and_true] at he
        obtain ⟨rfl, rfl⟩ := he
        have e4 := hc 4 _ rfl
        simp only [Nat.zero_add] at e4
        have HY : Hid (OO ++ [(j : Int)] = (planK rs ts (k + 1)).2) := Lib.hid (by rw [HP.out, planF, hnx]; rfl)
        have HA : Hid (LL.set j { x with done := x.done + 1 } = (planK rs ts (k + 1)).1) := Lib.hid (by rw [HP.out, planF, hnx, srvAt, hx])
        have HX := Lib.hid hx
        have d3 : j < n0 := by have := HLn.out; rw [← this]; exact hj1
        have d0 : decide ((0 : Int) ≤ (j : Int)) = true := by simp
        have hs2 : w2.heap.size ≤ wq.heap.size := hb6q.size
        rw [show findZ (some j) = (j : Int) from rfl]
        clear hnx hc hx hop hxo HOk
        obtain ⟨f0, f1, f2, f3, f4, f5⟩ := x
        simp only at i0 e4 HA HX
        have he0 : Hid ((Req.enc ⟨f0, f1, f2, f3, f4, f5⟩).set 4 (.int .i64 (f4 + 1)) = Req.enc ⟨f0, f1, f2, f3, f4 + 1, f5⟩) := Lib.hid rfl
        go_wp2_with (with_reducible refine wpl_setf Req.len (by decide) _ rfl 2 (.tmp 46) (.tmp 44) rfl g (j * 6 + 4) rfl (.int .i64 (f4 + 1)) rfl (cells_i _) (one_i _) ?s1 w2.heap.size 53 n0 c' j 4 _ hoAq ⟨f0, f1, f2, f3, f4, f5⟩ ⟨f0, f1, f2, f3, f4 + 1, f5⟩ HX (by decide) he0 rfl w2.heap.size hg1 hs2 _ HA ?_)
        case s1 => kernel_rfl
        intro w5 hoA5 hb7 hgr
        have hoI5 := hoIq.kept hgr (ne_of_lt hoIq ((HLT.out g rfl).2))
        have hb75 := hb6q.trans hb7
        have hs7 : w3.heap.size ≤ w5.heap.size := Nat.le_trans hsq hb7.size
        clear e4 i0 hoAq hoIq hb6q hb7 hgr hs2 hsq
        go_wp2_with (at_builtin; refine wpl_app eI_len (by decide) _ rfl (.tmp 47) (.tmp 49) 31 rfl 2 (.int .i64 0) 8 rfl Try.underlying31 infoI64 w3.heap.size _ k _ rfl w5 _ 2 rfl hoI5 (j : Int) rfl rfl (eI_one _) h63 hby hs7 _ HY ?_)
        intro a4 c4 w6 hoI6 hb8 _
        have hoA6 := hoA5.upto (fun b h => (HLT.out b h).2) hb8
        have hb9 := hb75.trans (hb8.mono HBS.out.size)
        have hs9 : w3.heap.size ≤ w6.heap.size := Nat.le_trans hs7 hb8.size
        go_wp2_with fail
        go_roundw
        case rel => exact ⟨k + 1, a4, c4, by omega, by go_num, by simp, hoA6, hoI6, hb9, hs9⟩
        case measure => simp [intOf]; omega
    · obtain rfl : k = n1 := by omega
      rw [← HN.out] at hoI
      go_wp2_with fail
      go_ret2
      exact ⟨_, _, _, rfl, hn1, hoI.mono (Nat.le_trans HBW.out.size HBS.out.size), HBW.out.trans (hb6.mono HBW.out.size)⟩

set_option maxHeartbeats 4000000 in
theorem implPlan : Calls Try.prog 24 #[.slice a0 n0 c0, .slice a1 n1 c1] w fun e w' => ∃ a' n' c', e = .returned (.tuple #[.slice a' n' c', .int .i64 (planC rs ts)]) ∧ n' ≤ 1048576 ∧ Ow eI 1 w' w.heap.size 2 (.slice a' n' c') n' (planL rs ts) ∧ Below w.heap.size w w' := by
  have HL := Lib.hid hl0
  have HM := Lib.hid hl1
  have HO := Lib.hid ho
  clear hl0 hl1 ho
  cases hv : reqsB rs with
  | false =>
    have HN : Hid (planL rs ts = []) := Lib.hid (by rw [planL, planC_bad hv]; rfl)
    rw [planC_bad hv]
    have HV := Lib.hid hv
    clear hv
    go_enter Try.func24, Try.ntmps24
    go_wp2_with fail
    refine (ValidRequests_any rs a0 n0 c0 _ hn0 HL.out HO.out hr0).mono ?_
    rintro e w1 ⟨rfl, hb⟩
    rw [HV.out]
    go_wp2_with fail
    go_ret2
    exact ⟨none, 0, 0, rfl, by omega, by rw [HN.out]; exact Ow.nil _ _ _, hb⟩
  | true =>
  cases ht : timesB ts 100 with
  | false =>
    have HN : Hid (planL rs ts = []) := Lib.hid (by rw [planL, planC_no hv ht]; rfl)
    rw [planC_no hv ht]
    have HV := Lib.hid hv
    have HT := Lib.hid ht
    clear hv ht
    go_enter Try.func24, Try.ntmps24
    go_wp2_with fail
    refine (ValidRequests_any rs a0 n0 c0 _ hn0 HL.out HO.out hr0).mono ?_
    rintro e w1 ⟨rfl, hb⟩
    rw [HV.out]
    go_wp2_with fail
    refine (areTimes_any ts 100 a1 n1 c1 _ hn1 HM.out (hr1.below hb)).mono ?_
    rintro e w2 ⟨rfl, hb2⟩
    rw [HT.out]
    go_wp2_with fail
    go_ret2
    exact ⟨none, 0, 0, rfl, by omega, by rw [HN.out]; exact Ow.nil _ _ _, hb.trans (hb2.mono hb.size)⟩
  | true =>
  have HN : Hid (planL rs ts = (planK rs ts n1).2) := Lib.hid (by rw [planL, planC_ok hv ht, HM.out]; rfl)
  rw [planC_ok hv ht]
  have HV := Lib.hid hv
  have HT := Lib.hid ht
  clear hv ht
  go_enter Try.func24, Try.ntmps24
  go_wp2_with fail
  refine (ValidRequests_any rs a0 n0 c0 _ hn0 HL.out HO.out hr0).mono ?_
  rintro e w1 ⟨rfl, hb⟩
  rw [HV.out]
  go_wp2_with fail
  refine (areTimes_any ts 100 a1 n1 c1 _ hn1 HM.out (hr1.below hb)).mono ?_
  rintro e w2 ⟨rfl, hb2⟩
  rw [HT.out]
  have hbW := hb.trans (hb2.mono hb.size)
  have hrA := hr0.below hbW
  have hrB := hr1.below hbW
  have HBW := Lib.hid hbW
  clear hr0 hr1 hb hb2 hbW
  go_wp2_with fail
  refine (copyOfReq_any rs a0 n0 c0 _ hn0 HL.out hrA).mono ?_
  rintro e w3 ⟨a', c', rfl, ho3, hb4⟩
  have HBS := Lib.hid hb4
  clear hb4
  have HLT := Lib.hid ho3.lt
  go_wp2_with fail
  go_loopw [7, 24] (fun o i wr => ∃ k : Nat, ∃ a2 c2, k ≤ n1 ∧ i = .int .i64 k ∧ o = .slice a2 k c2 ∧ Ow Req.enc 6 wr w2.heap.size 53 (.slice a' n0 c') n0 (planK rs ts k).1 ∧ Ow eI 1 wr w3.heap.size 2 (.slice a2 k c2) k (planK rs ts k).2 ∧ Below w2.heap.size w2 wr ∧ w3.heap.size ≤ wr.heap.size) (fun _ i _ => n1 - (intOf i).toNat)
  case atStart => exact ⟨0, _, _, Nat.zero_le _, rfl, rfl, ho3.below (below_built _ _), Ow.built _ _ _ _, HBS.out.trans ((below_built _ _).mono HBS.out.size), (below_built _ _).size⟩
  case round =>
    obtain ⟨k, a2, c2, hk, rfl, rfl, hoA, hoI, hb6, hs5⟩ := hrel
    clear ho3
    by_cases hlt : k < n1
    · obtain ⟨t, ht, htk⟩ := take_snoc' ts k (by rw [HM.out]; omega)
      have HP := Lib.hid (planK_step (rs := rs) htk)
      have hLn : (planK rs ts k).1.length = n0 := by rw [planK_len]; exact HL.out
      have hOk := planK_ok (ts := ts) (k := k) HO.out
      obtain ⟨b, o, rfl, hbl, hc⟩ := (hrB.below hb6) k t ht
      have c0' := hc 0 _ rfl
      rw [Nat.add_zero, Nat.mul_one] at c0'
      have h63 : k + 1 ≤ maxLen := by unfold maxLen; omega
      have hby : (k + 1) * 8 ≤ 140737488355328 := by omega
      obtain ⟨LL, OO, hst⟩ : ∃ LL OO, planK rs ts k = (LL, OO) := ⟨_, _, rfl⟩
      rw [hst] at HP hLn hOk hoA hoI
      simp only at hLn hOk hoA hoI
      have HLn := Lib.hid hLn
      have HOk := Lib.hid hOk
      clear hc ht htk hst hLn hOk hrB
      go_wp2_with fail
      refine (next_any LL t _ n0 c' _ hn0 HLn.out (hoA.rd Req.len (by decide))).mono ?_
      rintro e wq ⟨rfl, hbq⟩
      have hoAq := hoA.below hbq
      have hoIq := hoI.below hbq
      have hb6q := hb6.trans (hbq.mono hb6.size)
      have hsq : w3.heap.size ≤ wq.heap.size := Nat.le_trans hs5 hbq.size
      clear hoA hoI hb6 hs5 hbq c0'
      cases hnx : nxtV LL t with
      | none =>
        have HY : Hid (OO ++ [(-1 : Int)] = (planK rs ts (k + 1)).2) := Lib.hid (by rw [HP.out, planF, hnx]; rfl)
        have HA : Hid (LL = (planK rs ts (k + 1)).1) := Lib.hid (by rw [HP.out, planF, hnx]; rfl)
        rw [show findZ none = -1 from rfl]
        rw [HA.out] at hoAq
        clear hnx
        go_wp2_with (at_builtin; refine wpl_app eI_len (by decide) _ rfl (.tmp 41) (.tmp 43) 31 rfl 2 (.int .i64 0) 8 rfl Try.underlying31 infoI64 w3.heap.size _ k _ rfl wq _ 2 rfl hoIq (-1 : Int) rfl rfl (eI_one _) h63 hby hsq _ HY ?_)
        intro a4 c4 w6 hoI6 hb8 _
        have hoA6 := hoAq.upto (fun b h => (HLT.out b h).2) hb8
        have hb9 := hb6q.trans (hb8.mono HBS.out.size)
        have hs9 : w3.heap.size ≤ w6.heap.size := Nat.le_trans hsq hb8.size
        go_wp2_with fail
        go_roundw
        case rel => exact ⟨k + 1, a4, c4, by omega, by go_num, by simp, hoA6, hoI6, hb9, hs9⟩
        case measure => simp [intOf]; omega
      | some j =>
        obtain ⟨hj1, x, hx, hop⟩ := nxt_some hnx
        have hxo := HOk.out x (List.mem_of_getElem? hx)
        have i0 := opn_wrap hxo hop
        obtain ⟨g, rfl, hg1, hg2⟩ := hoAq.at_ (by have := HLn.out; omega)
        obtain ⟨g', o', he, _, hc⟩ := (hoAq.rd Req.len (by decide)) j x hx
        simp only [Option.some.injEq, Addr.mk.injEq, and_true] at he
        obtain ⟨rfl, rfl⟩ := he
        have e4 := hc 4 _ rfl
        simp only [Nat.zero_add] at e4
        have HY : Hid (OO ++ [(j : Int)] = (planK rs ts (k + 1)).2) := Lib.hid (by rw [HP.out, planF, hnx]; rfl)
        have HA : Hid (LL.set j { x with done := x.done + 1 } = (planK rs ts (k + 1)).1) := Lib.hid (by rw [HP.out, planF, hnx, srvAt, hx])
        have HX := Lib.hid hx
        have d3 : j < n0 := by have := HLn.out; rw [← this]; exact hj1
        have d0 : decide ((0 : Int) ≤ (j : Int)) = true := by simp
        have hs2 : w2.heap.size ≤ wq.heap.size := hb6q.size
        rw [show findZ (some j) = (j : Int) from rfl]
        clear hnx hc hx hop hxo HOk
        obtain ⟨f0, f1, f2, f3, f4, f5⟩ := x
        simp only at i0 e4 HA HX
        have he0 : Hid ((Req.enc ⟨f0, f1, f2, f3, f4, f5⟩).set 4 (.int .i64 (f4 + 1)) = Req.enc ⟨f0, f1, f2, f3, f4 + 1, f5⟩) := Lib.hid rfl
        go_wp2_with (with_reducible refine wpl_setf Req.len (by decide) _ rfl 2 (.tmp 40) (.tmp 38) rfl g (j * 6 + 4) rfl (.int .i64 (f4 + 1)) rfl (cells_i _) (one_i _) ?s1 w2.heap.size 53 n0 c' j 4 _ hoAq ⟨f0, f1, f2, f3, f4, f5⟩ ⟨f0, f1, f2, f3, f4 + 1, f5⟩ HX (by decide) he0 rfl w2.heap.size hg1 hs2 _ HA ?_)
        case s1 => kernel_rfl
        intro w5 hoA5 hb7 hgr
        have hoI5 := hoIq.kept hgr (ne_of_lt hoIq ((HLT.out g rfl).2))
        have hb75 := hb6q.trans hb7
        have hs7 : w3.heap.size ≤ w5.heap.size := Nat.le_trans hsq hb7.size
        clear e4 i0 hoAq hoIq hb6q hb7 hgr hs2 hsq
        go_wp2_with (at_builtin; refine wpl_app eI_len (by decide) _ rfl (.tmp 41) (.tmp 43) 31 rfl 2 (.int .i64 0) 8 rfl Try.underlying31 infoI64 w3.heap.size _ k _ rfl w5 _ 2 rfl hoI5 (j : Int) rfl rfl (eI_one _) h63 hby hs7 _ HY ?_)
        intro a4 c4 w6 hoI6 hb8 _
        have hoA6 := hoA5.upto (fun b h => (HLT.out b h).2) hb8
        have hb9 := hb75.trans (hb8.mono HBS.out.size)
        have hs9 : w3.heap.size ≤ w6.heap.size := Nat.le_trans hs7 hb8.size
        go_wp2_with fail
        go_roundw
        case rel => exact ⟨k + 1, a4, c4, by omega, by go_num, by simp, hoA6, hoI6, hb9, hs9⟩
        case measure => simp [intOf]; omega
    · obtain rfl : k = n1 := by omega
      rw [← HN.out] at hoI
      go_wp2_with fail
      go_ret2
      exact ⟨_, _, _, rfl, hn1, hoI.mono (Nat.le_trans HBW.out.size HBS.out.size), HBW.out.trans (hb6.mono HBW.out.size)⟩
end
end Go.Proofs.Ytababgnlogfphaa
