/-
  Requests read, in the program.
-/
import Derived.Test.YtdpmdifdnneinaaDoorRq1
import Derived.Test.YtdpmdifdnneinaaDoorRdI
import Derived.Deep.CutRange
import Derived.Deep.Light
import Derived.Laws.ResultCell
namespace Go.Proofs.YtdpmdifdnneinaaDoor
open Go.RowKit
set_option maxRecDepth 100000
set_option linter.unusedVariables false
set_option linter.unusedSimpArgs false
theorem splitI (s : ByteArray) (w : World) (hs : s.size ≤ 1048576) (hA : AllOk w) : Calls Tryd.prog 11 #[.string s, .string ⟨#[32]⟩] w fun e w' => ∃ a' n' c', e = .returned (.slice a' n' c') ∧ n' = (cutC 32 s).length ∧ Rd eS 1 w' a' (cutC 32 s) ∧ Below w.heap.size w w' := by
  obtain ⟨_, mm, hmm⟩ := hA.m
  refine (Shstrings_Split s ⟨#[32]⟩ mm w (by omega) hmm (by decide)).mono ?_
  rintro e w' ⟨he, rfl⟩
  refine ⟨_, _, _, he, (cutC_len 32 s).symm, fun i x hx => ⟨w.heap.size, 0, rfl, by simp, fun j u hu => ?_⟩, (Below.refl _ _).alloc (Nat.le_refl _) _⟩
  have hj : j = 0 := by
    cases j with
    | zero => rfl
    | succ j => simp [eS] at hu
  subst hj
  have hu : Value.string x = u := by simpa [eS] using hu
  rw [← hu, Nat.mul_one, Nat.add_zero]
  exact joinCells w (cutC 32 s) _ i x hx
theorem decAny (s : ByteArray) (o : Option Int) (w : World) (hs : s.size ≤ 1048576) (h : numV s.data.toList = o) (hA : AllOk w) : Calls Tryd.prog 14 #[.string s] w fun e w' => e = .returned (.tuple #[.int .i64 (o.getD 0), .bool o.isSome]) ∧ Below w.heap.size w w' := by
  have h1 := readDec s w hs hA
  unfold numR at h1
  rw [h, numT_eq] at h1
  exact h1
theorem numV_i64 {l : List UInt8} {o : Option Int} (h : numV l = o) : I64 (o.getD 0) := by
  cases o with
  | none => unfold I64; show -9223372036854775808 ≤ (0 : Int) ∧ (0 : Int) ≤ 9223372036854775807; omega
  | some n => have := (numV_iff.1 h).lt; unfold I64; show -9223372036854775808 ≤ n ∧ n ≤ 9223372036854775807; omega
set_option maxHeartbeats 4000000 in
theorem implRead (s : ByteArray) (w : World) (hs : s.size ≤ 1048576) (hA : AllOk w) : Calls Tryd.prog 5 #[.string s] w fun e w' => e = .returned (rdR s) ∧ Below w.heap.size w w' := by
  have HA := Lib.hid hA
  have HS := Lib.hid fun wq (hq : AllOk wq) => splitI s wq hs hq
  clear hA
  by_cases hlen : (cutC 32 s).length = 5
  case neg =>
    have HX := Lib.hid (rdR_no (s := s) fun x hx => hlen (by rw [hx.parts.cut]; rfl))
    go_enter Tryd.func5, Tryd.ntmps5
    go_wp2_with fail
    have hown := Ow.oneG Req.len w Req.zero 23
    have hb0 : Below w.heap.size w (w.alloc (.cells Req.zero.enc.toArray 23)) := (Below.refl _ _).alloc (Nat.le_refl _) _
    have hlt : w.heap.size < (w.alloc (.cells Req.zero.enc.toArray 23)).heap.size := by simp
    change Calls _ _ _ (w.alloc (.cells Req.zero.enc.toArray 23)) _
    generalize w.alloc (.cells Req.zero.enc.toArray 23) = w0 at *
    have HOWN := Lib.hid hown
    have HB := Lib.hid hb0
    have HLT := Lib.hid hlt
    clear hown hb0 hlt
    have HA := Lib.hid (HA.out.below HB.out)
    refine (HS.out _ HA.out).mono ?_
    rintro e w1 ⟨a1, n1, c1, rfl, hn1, hr1, hb1⟩
    have HOWN := Lib.hid (HOWN.out.below hb1)
    have HB := Lib.hid (HB.out.trans (hb1.mono (Nat.le_of_lt HLT.out)))
    have HLT := Lib.hid (Nat.lt_of_lt_of_le HLT.out hb1.size)
    have HA := Lib.hid (HA.out.below hb1)
    clear hb1
    have d0 : ((n1 : Int) != 5) = true := by rw [bne_iff_ne]; omega
    clear hr1
    have hown := HOWN.out
    have hle : w.heap.size ≤ w1.heap.size := Nat.le_of_lt HLT.out
    obtain ⟨nv, hnv⟩ : ∃ nv : Req, nv = Req.zero := ⟨_, rfl⟩
    have HY : Hid (([Req.zero] : List Req).set 0 Req.zero = [nv]) := Lib.hid (by rw [hnv]; rfl)
    have HN := Lib.hid hnv
    clear hnv
    go_wp2_with (with_reducible refine wpl_set Req.len (by decide) _ rfl 23 (.tmp 2) (.tmp 23) rfl w.heap.size 0 rfl _ rfl Req.zero rfl ?s1 (Req.one _) w.heap.size 23 1 1 0 [Req.zero] hown (by decide) rfl w.heap.size (Nat.le_refl _) ?s2 [nv] HY ?_)
    case s1 => kernel_rfl
    case s2 => omega
    intro wz hownz hbz _
    obtain ⟨c0, c1, c2, c3, c4, c5⟩ := Ow.sixth hownz
    have HE := Lib.hid (HB.out.trans hbz)
    clear hownz hbz hown hle
    go_wp2_with fail
    refine bodyPost_ret (v := .tuple #[.agg #[.string nv.star, .int .i64 nv.frm, .int .i64 nv.til, .int .i64 nv.want, .int .i64 nv.done, .int .i64 nv.prio], .bool false]) ((results_cell_tmp rfl _ _ _).trans ?r1) rfl ?_
    case r1 => go_simp
    exact ⟨(by rw [HX.out, HN.out]; try rfl), HE.out⟩
  case pos =>
  obtain ⟨p0, p1, p2, p3, p4, hc⟩ : ∃ p0 p1 p2 p3 p4, cutC 32 s = [p0, p1, p2, p3, p4] := by
    match h : cutC 32 s, hlen with
    | [p0, p1, p2, p3, p4], _ => exact ⟨p0, p1, p2, p3, p4, rfl⟩
  have z0 : p0.size ≤ s.size := cutC_mem (c := 32) (by rw [hc]; simp)
  have z1 : p1.size ≤ s.size := cutC_mem (c := 32) (by rw [hc]; simp)
  have z2 : p2.size ≤ s.size := cutC_mem (c := 32) (by rw [hc]; simp)
  have z4 : p4.size ≤ s.size := cutC_mem (c := 32) (by rw [hc]; simp)
  have HC := Lib.hid hc
  obtain ⟨A, hA1⟩ : ∃ A, (⟨(Lib.cut p1.data.toList [46, 46]).1.toArray⟩ : ByteArray) = A := ⟨_, rfl⟩
  obtain ⟨B, hB1⟩ : ∃ B, (⟨(Lib.cut p1.data.toList [46, 46]).2.1.toArray⟩ : ByteArray) = B := ⟨_, rfl⟩
  obtain ⟨C, hC1⟩ : ∃ C, (⟨(Lib.cut p2.data.toList [47]).1.toArray⟩ : ByteArray) = C := ⟨_, rfl⟩
  obtain ⟨D, hD1⟩ : ∃ D, (⟨(Lib.cut p2.data.toList [47]).2.1.toArray⟩ : ByteArray) = D := ⟨_, rfl⟩
  obtain ⟨b0, hb0⟩ : ∃ b0, (Lib.cut p2.data.toList [47]).2.2 = b0 := ⟨_, rfl⟩
  have hcs := cut_sizes p2.data.toList [47]
  have hsl : p2.data.toList.length = p2.size := Array.length_toList
  have y1 : C.size ≤ 1048576 := by rw [← hC1]; simp only [ByteArray.size, List.size_toArray]; omega
  have y2 : D.size ≤ 1048576 := by rw [← hD1]; simp only [ByteArray.size, List.size_toArray]; omega
  obtain ⟨o1, h1⟩ : ∃ o1, numV A.data.toList = o1 := ⟨_, rfl⟩
  obtain ⟨o2, h2⟩ : ∃ o2, numV B.data.toList = o2 := ⟨_, rfl⟩
  obtain ⟨o3, h3⟩ : ∃ o3, numV C.data.toList = o3 := ⟨_, rfl⟩
  obtain ⟨o4, h4⟩ : ∃ o4, numV D.data.toList = o4 := ⟨_, rfl⟩
  obtain ⟨o5, h5⟩ : ∃ o5, numV p4.data.toList = o5 := ⟨_, rfl⟩
  have hpart : ∀ x, RdQ s x → p0 = x.star ∧ o1 = some x.frm ∧ o2 = some x.til ∧ o3 = some x.done ∧ o4 = some x.want ∧ o5 = some x.prio := fun x hx => by
    have P := hx.parts
    have e := hc.symm.trans P.cut
    unfold partsR at e
    injection e with e0 e
    injection e with e1 e
    injection e with e2 e
    injection e with _ e
    injection e with e4 _
    have hd := decB_list
    refine ⟨e0, ?_, ?_, ?_, ?_, ?_⟩
    · rw [← h1, ← hA1, e1, P.two]
      exact numV_some (by have := P.q1; rw [hd] at this; simpa using this)
    · rw [← h2, ← hB1, e1, P.two]
      exact numV_some (by have := P.q2; rw [hd] at this; simpa using this)
    · rw [← h3, ← hC1, e2, P.one]
      exact numV_some (by have := P.q3; rw [hd] at this; simpa using this)
    · rw [← h4, ← hD1, e2, P.one]
      exact numV_some (by have := P.q4; rw [hd] at this; simpa using this)
    · rw [← h5, e4]
      exact numV_some P.q5
  obtain ⟨v1, g1, hv1, hg1⟩ : ∃ v b, o1.getD 0 = v ∧ o1.isSome = b := ⟨_, _, rfl, rfl⟩
  obtain ⟨v2, g2, hv2, hg2⟩ : ∃ v b, o2.getD 0 = v ∧ o2.isSome = b := ⟨_, _, rfl, rfl⟩
  obtain ⟨v3, g3, hv3, hg3⟩ : ∃ v b, o3.getD 0 = v ∧ o3.isSome = b := ⟨_, _, rfl, rfl⟩
  obtain ⟨v4, g4, hv4, hg4⟩ : ∃ v b, o4.getD 0 = v ∧ o4.isSome = b := ⟨_, _, rfl, rfl⟩
  obtain ⟨v5, g5, hv5, hg5⟩ : ∃ v b, o5.getD 0 = v ∧ o5.isSome = b := ⟨_, _, rfl, rfl⟩
  obtain ⟨gr, hgr⟩ : ∃ b, (g1 && g2) = b := ⟨_, rfl⟩
  have HRG : Hid (∀ wq, AllOk wq → Calls Tryd.prog 12 #[.string p1] wq fun e w' => e = .returned (.tuple #[.int .i64 v1, .int .i64 v2, .bool gr]) ∧ Below wq.heap.size wq w') := Lib.hid fun wq hq => by
    have := readRng p1 A B o1 o2 wq (by omega) hq hA1 hB1 h1 h2
    rw [hv1, hv2, hg1, hg2, hgr] at this
    exact this
  have HCU : Hid (∀ wq, AllOk wq → Calls Tryd.prog 13 #[.string p2, .string ⟨#[47]⟩] wq fun e w' => e = .returned (.tuple #[.string C, .string D, .bool b0]) ∧ Below wq.heap.size wq w') := Lib.hid fun wq hq => by
    have := cut_any p2 ⟨#[47]⟩ wq (by omega) hq
    rw [show (⟨#[47]⟩ : ByteArray).data.toList = [47] from rfl, hC1, hD1, hb0] at this
    exact this
  have HN3 : Hid (∀ wq, AllOk wq → Calls Tryd.prog 14 #[.string C] wq fun e w' => e = .returned (.tuple #[.int .i64 v3, .bool g3]) ∧ Below wq.heap.size wq w') := Lib.hid fun wq hq => by have := decAny C o3 wq (by omega) h3 hq; rw [hv3, hg3] at this; exact this
  have HN4 : Hid (∀ wq, AllOk wq → Calls Tryd.prog 14 #[.string D] wq fun e w' => e = .returned (.tuple #[.int .i64 v4, .bool g4]) ∧ Below wq.heap.size wq w') := Lib.hid fun wq hq => by have := decAny D o4 wq (by omega) h4 hq; rw [hv4, hg4] at this; exact this
  have HN5 : Hid (∀ wq, AllOk wq → Calls Tryd.prog 14 #[.string p4] wq fun e w' => e = .returned (.tuple #[.int .i64 v5, .bool g5]) ∧ Below wq.heap.size wq w') := Lib.hid fun wq hq => by have := decAny p4 o5 wq (by omega) h5 hq; rw [hv5, hg5] at this; exact this
  have hOk : Req.Ok (⟨p0, v1, v2, v4, v3, v5⟩ : Req) := ⟨by show p0.size ≤ maxLen; unfold maxLen; omega, by rw [← hv1]; exact numV_i64 h1, by rw [← hv2]; exact numV_i64 h2, by rw [← hv4]; exact numV_i64 h4, by rw [← hv3]; exact numV_i64 h3, by rw [← hv5]; exact numV_i64 h5⟩
  cases gr with
  | false =>
    have HX := Lib.hid (rdR_no (s := s) fun x hx => by
      obtain ⟨_, i1, i2, _⟩ := hpart x hx
      rw [i1] at hg1
      rw [i2] at hg2
      rw [← hg1, ← hg2] at hgr
      cases hgr)
    clear hc hlen hA1 hB1 hC1 hD1 hb0 hcs hsl h1 h2 h3 h4 h5 hpart hv1 hv2 hv3 hv4 hv5 hg1 hg2 hg3 hg4 hg5 hgr hOk
    go_enter Tryd.func5, Tryd.ntmps5
    go_wp2_with fail
    have hown := Ow.oneG Req.len w Req.zero 23
    have hb0 : Below w.heap.size w (w.alloc (.cells Req.zero.enc.toArray 23)) := (Below.refl _ _).alloc (Nat.le_refl _) _
    have hlt : w.heap.size < (w.alloc (.cells Req.zero.enc.toArray 23)).heap.size := by simp
    change Calls _ _ _ (w.alloc (.cells Req.zero.enc.toArray 23)) _
    generalize w.alloc (.cells Req.zero.enc.toArray 23) = w0 at *
    have HOWN := Lib.hid hown
    have HB := Lib.hid hb0
    have HLT := Lib.hid hlt
    clear hown hb0 hlt
    have HA := Lib.hid (HA.out.below HB.out)
    refine (HS.out _ HA.out).mono ?_
    rintro e w1 ⟨a1, n1, c1, rfl, hn1, hr1, hb1⟩
    have HOWN := Lib.hid (HOWN.out.below hb1)
    have HB := Lib.hid (HB.out.trans (hb1.mono (Nat.le_of_lt HLT.out)))
    have HLT := Lib.hid (Nat.lt_of_lt_of_le HLT.out hb1.size)
    have HA := Lib.hid (HA.out.below hb1)
    clear hb1
    rw [HC.out] at hn1 hr1
    obtain rfl : n1 = 5 := hn1
    obtain ⟨b, o, rfl, hrow⟩ := rowN hr1
    have HR := Lib.hid hrow
    clear hrow hr1
    have k1 := HR.out.2 1 _ rfl
    go_wp2_with fail
    refine (HRG.out _ HA.out).mono ?_
    rintro e w2 ⟨rfl, hb2⟩
    have HOWN := Lib.hid (HOWN.out.below hb2)
    have HB := Lib.hid (HB.out.trans (hb2.mono (Nat.le_of_lt HLT.out)))
    have HLT := Lib.hid (Nat.lt_of_lt_of_le HLT.out hb2.size)
    have HA := Lib.hid (HA.out.below hb2)
    have HR := Lib.hid (HR.out.below hb2)
    clear hb2
    clear k1
    have k2 := HR.out.2 2 _ rfl
    go_wp2_with fail
    refine (HCU.out _ HA.out).mono ?_
    rintro e w3 ⟨rfl, hb3⟩
    have HOWN := Lib.hid (HOWN.out.below hb3)
    have HB := Lib.hid (HB.out.trans (hb3.mono (Nat.le_of_lt HLT.out)))
    have HLT := Lib.hid (Nat.lt_of_lt_of_le HLT.out hb3.size)
    have HA := Lib.hid (HA.out.below hb3)
    have HR := Lib.hid (HR.out.below hb3)
    clear hb3
    clear k2
    go_wp2_with fail
    refine (HN3.out _ HA.out).mono ?_
    rintro e w4 ⟨rfl, hb4⟩
    have HOWN := Lib.hid (HOWN.out.below hb4)
    have HB := Lib.hid (HB.out.trans (hb4.mono (Nat.le_of_lt HLT.out)))
    have HLT := Lib.hid (Nat.lt_of_lt_of_le HLT.out hb4.size)
    have HA := Lib.hid (HA.out.below hb4)
    have HR := Lib.hid (HR.out.below hb4)
    clear hb4
    go_wp2_with fail
    refine (HN4.out _ HA.out).mono ?_
    rintro e w5 ⟨rfl, hb5⟩
    have HOWN := Lib.hid (HOWN.out.below hb5)
    have HB := Lib.hid (HB.out.trans (hb5.mono (Nat.le_of_lt HLT.out)))
    have HLT := Lib.hid (Nat.lt_of_lt_of_le HLT.out hb5.size)
    have HA := Lib.hid (HA.out.below hb5)
    have HR := Lib.hid (HR.out.below hb5)
    clear hb5
    have k4 := HR.out.2 4 _ rfl
    go_wp2_with fail
    refine (HN5.out _ HA.out).mono ?_
    rintro e w6 ⟨rfl, hb6⟩
    have HOWN := Lib.hid (HOWN.out.below hb6)
    have HB := Lib.hid (HB.out.trans (hb6.mono (Nat.le_of_lt HLT.out)))
    have HLT := Lib.hid (Nat.lt_of_lt_of_le HLT.out hb6.size)
    have HA := Lib.hid (HA.out.below hb6)
    have HR := Lib.hid (HR.out.below hb6)
    clear hb6
    clear k4
    have k0 := HR.out.c0
    go_upto_region 10 with (fail)
    obtain ⟨d0, d1, d2, d3, d4, d5, hba⟩ := reqNew w6 (⟨p0, v1, v2, v4, v3, v5⟩ : Req)
    have hlt6 : w6.heap.size < (w6.alloc (.cells #[.string p0, .int .i64 v1, .int .i64 v2, .int .i64 v4, .int .i64 v3, .int .i64 v5] 23)).heap.size := by simp
    obtain ⟨g6, hg6⟩ : ∃ g, w6.heap.size = g := ⟨_, rfl⟩
    have hba : Below w6.heap.size w6 (w6.alloc (.cells #[.string p0, .int .i64 v1, .int .i64 v2, .int .i64 v4, .int .i64 v3, .int .i64 v5] 23)) := hba
    change (w6.alloc (.cells #[.string p0, .int .i64 v1, .int .i64 v2, .int .i64 v4, .int .i64 v3, .int .i64 v5] 23)).cell? _ = some (.string p0) at d0
    change (w6.alloc (.cells #[.string p0, .int .i64 v1, .int .i64 v2, .int .i64 v4, .int .i64 v3, .int .i64 v5] 23)).cell? _ = some (.int .i64 v1) at d1
    change (w6.alloc (.cells #[.string p0, .int .i64 v1, .int .i64 v2, .int .i64 v4, .int .i64 v3, .int .i64 v5] 23)).cell? _ = some (.int .i64 v2) at d2
    change (w6.alloc (.cells #[.string p0, .int .i64 v1, .int .i64 v2, .int .i64 v4, .int .i64 v3, .int .i64 v5] 23)).cell? _ = some (.int .i64 v4) at d3
    change (w6.alloc (.cells #[.string p0, .int .i64 v1, .int .i64 v2, .int .i64 v4, .int .i64 v3, .int .i64 v5] 23)).cell? _ = some (.int .i64 v3) at d4
    change (w6.alloc (.cells #[.string p0, .int .i64 v1, .int .i64 v2, .int .i64 v4, .int .i64 v3, .int .i64 v5] 23)).cell? _ = some (.int .i64 v5) at d5
    generalize w6.alloc (.cells #[.string p0, .int .i64 v1, .int .i64 v2, .int .i64 v4, .int .i64 v3, .int .i64 v5] 23) = w7 at *
    rw [hg6] at d0 d1 d2 d3 d4 d5 hlt6
    have HOWN := Lib.hid (HOWN.out.below hba)
    have HB := Lib.hid (HB.out.trans (hba.mono (Nat.le_of_lt HLT.out)))
    have HLT := Lib.hid (Nat.lt_of_lt_of_le HLT.out hba.size)
    have HA := Lib.hid (HA.out.below hba)
    have HR := Lib.hid (HR.out.below hba)
    clear hba
    clear k0
    rw [hg6]
    have HG6 := Lib.hid hg6
    clear hg6
    clear d0 d1 d2 d3 d4 d5 hlt6
    have hown := HOWN.out
    have hle : w.heap.size ≤ w7.heap.size := Nat.le_of_lt HLT.out
    obtain ⟨nv, hnv⟩ : ∃ nv : Req, nv = Req.zero := ⟨_, rfl⟩
    have HY : Hid (([Req.zero] : List Req).set 0 Req.zero = [nv]) := Lib.hid (by rw [hnv]; rfl)
    have HN := Lib.hid hnv
    clear hnv
    go_wp2_with (with_reducible refine wpl_set Req.len (by decide) _ rfl 23 (.tmp 2) (.tmp 86) rfl w.heap.size 0 rfl _ rfl Req.zero rfl ?s1 (Req.one _) w.heap.size 23 1 1 0 [Req.zero] hown (by decide) rfl w.heap.size (Nat.le_refl _) ?s2 [nv] HY ?_)
    case s1 => kernel_rfl
    case s2 => omega
    intro wz hownz hbz _
    obtain ⟨c0, c1, c2, c3, c4, c5⟩ := Ow.sixth hownz
    have HE := Lib.hid (HB.out.trans hbz)
    clear hownz hbz hown hle
    go_wp2_with fail
    refine bodyPost_ret (v := .tuple #[.agg #[.string nv.star, .int .i64 nv.frm, .int .i64 nv.til, .int .i64 nv.want, .int .i64 nv.done, .int .i64 nv.prio], .bool false]) ((results_cell_tmp rfl _ _ _).trans ?r1) rfl ?_
    case r1 => go_simp
    exact ⟨(by rw [HX.out, HN.out]; try rfl), HE.out⟩
  | true =>
  cases g3 with
  | false =>
    have HX := Lib.hid (rdR_no (s := s) fun x hx => by
      obtain ⟨_, _, _, i3, _⟩ := hpart x hx
      rw [i3] at hg3
      cases hg3)
    clear hc hlen hA1 hB1 hC1 hD1 hb0 hcs hsl h1 h2 h3 h4 h5 hpart hv1 hv2 hv3 hv4 hv5 hg1 hg2 hg3 hg4 hg5 hgr hOk
    go_enter Tryd.func5, Tryd.ntmps5
    go_wp2_with fail
    have hown := Ow.oneG Req.len w Req.zero 23
    have hb0 : Below w.heap.size w (w.alloc (.cells Req.zero.enc.toArray 23)) := (Below.refl _ _).alloc (Nat.le_refl _) _
    have hlt : w.heap.size < (w.alloc (.cells Req.zero.enc.toArray 23)).heap.size := by simp
    change Calls _ _ _ (w.alloc (.cells Req.zero.enc.toArray 23)) _
    generalize w.alloc (.cells Req.zero.enc.toArray 23) = w0 at *
    have HOWN := Lib.hid hown
    have HB := Lib.hid hb0
    have HLT := Lib.hid hlt
    clear hown hb0 hlt
    have HA := Lib.hid (HA.out.below HB.out)
    refine (HS.out _ HA.out).mono ?_
    rintro e w1 ⟨a1, n1, c1, rfl, hn1, hr1, hb1⟩
    have HOWN := Lib.hid (HOWN.out.below hb1)
    have HB := Lib.hid (HB.out.trans (hb1.mono (Nat.le_of_lt HLT.out)))
    have HLT := Lib.hid (Nat.lt_of_lt_of_le HLT.out hb1.size)
    have HA := Lib.hid (HA.out.below hb1)
    clear hb1
    rw [HC.out] at hn1 hr1
    obtain rfl : n1 = 5 := hn1
    obtain ⟨b, o, rfl, hrow⟩ := rowN hr1
    have HR := Lib.hid hrow
    clear hrow hr1
    have k1 := HR.out.2 1 _ rfl
    go_wp2_with fail
    refine (HRG.out _ HA.out).mono ?_
    rintro e w2 ⟨rfl, hb2⟩
    have HOWN := Lib.hid (HOWN.out.below hb2)
    have HB := Lib.hid (HB.out.trans (hb2.mono (Nat.le_of_lt HLT.out)))
    have HLT := Lib.hid (Nat.lt_of_lt_of_le HLT.out hb2.size)
    have HA := Lib.hid (HA.out.below hb2)
    have HR := Lib.hid (HR.out.below hb2)
    clear hb2
    clear k1
    have k2 := HR.out.2 2 _ rfl
    go_wp2_with fail
    refine (HCU.out _ HA.out).mono ?_
    rintro e w3 ⟨rfl, hb3⟩
    have HOWN := Lib.hid (HOWN.out.below hb3)
    have HB := Lib.hid (HB.out.trans (hb3.mono (Nat.le_of_lt HLT.out)))
    have HLT := Lib.hid (Nat.lt_of_lt_of_le HLT.out hb3.size)
    have HA := Lib.hid (HA.out.below hb3)
    have HR := Lib.hid (HR.out.below hb3)
    clear hb3
    clear k2
    go_wp2_with fail
    refine (HN3.out _ HA.out).mono ?_
    rintro e w4 ⟨rfl, hb4⟩
    have HOWN := Lib.hid (HOWN.out.below hb4)
    have HB := Lib.hid (HB.out.trans (hb4.mono (Nat.le_of_lt HLT.out)))
    have HLT := Lib.hid (Nat.lt_of_lt_of_le HLT.out hb4.size)
    have HA := Lib.hid (HA.out.below hb4)
    have HR := Lib.hid (HR.out.below hb4)
    clear hb4
    go_wp2_with fail
    refine (HN4.out _ HA.out).mono ?_
    rintro e w5 ⟨rfl, hb5⟩
    have HOWN := Lib.hid (HOWN.out.below hb5)
    have HB := Lib.hid (HB.out.trans (hb5.mono (Nat.le_of_lt HLT.out)))
    have HLT := Lib.hid (Nat.lt_of_lt_of_le HLT.out hb5.size)
    have HA := Lib.hid (HA.out.below hb5)
    have HR := Lib.hid (HR.out.below hb5)
    clear hb5
    have k4 := HR.out.2 4 _ rfl
    go_wp2_with fail
    refine (HN5.out _ HA.out).mono ?_
    rintro e w6 ⟨rfl, hb6⟩
    have HOWN := Lib.hid (HOWN.out.below hb6)
    have HB := Lib.hid (HB.out.trans (hb6.mono (Nat.le_of_lt HLT.out)))
    have HLT := Lib.hid (Nat.lt_of_lt_of_le HLT.out hb6.size)
    have HA := Lib.hid (HA.out.below hb6)
    have HR := Lib.hid (HR.out.below hb6)
    clear hb6
    clear k4
    have k0 := HR.out.c0
    go_upto_region 10 with (fail)
    obtain ⟨d0, d1, d2, d3, d4, d5, hba⟩ := reqNew w6 (⟨p0, v1, v2, v4, v3, v5⟩ : Req)
    have hlt6 : w6.heap.size < (w6.alloc (.cells #[.string p0, .int .i64 v1, .int .i64 v2, .int .i64 v4, .int .i64 v3, .int .i64 v5] 23)).heap.size := by simp
    obtain ⟨g6, hg6⟩ : ∃ g, w6.heap.size = g := ⟨_, rfl⟩
    have hba : Below w6.heap.size w6 (w6.alloc (.cells #[.string p0, .int .i64 v1, .int .i64 v2, .int .i64 v4, .int .i64 v3, .int .i64 v5] 23)) := hba
    change (w6.alloc (.cells #[.string p0, .int .i64 v1, .int .i64 v2, .int .i64 v4, .int .i64 v3, .int .i64 v5] 23)).cell? _ = some (.string p0) at d0
    change (w6.alloc (.cells #[.string p0, .int .i64 v1, .int .i64 v2, .int .i64 v4, .int .i64 v3, .int .i64 v5] 23)).cell? _ = some (.int .i64 v1) at d1
    change (w6.alloc (.cells #[.string p0, .int .i64 v1, .int .i64 v2, .int .i64 v4, .int .i64 v3, .int .i64 v5] 23)).cell? _ = some (.int .i64 v2) at d2
    change (w6.alloc (.cells #[.string p0, .int .i64 v1, .int .i64 v2, .int .i64 v4, .int .i64 v3, .int .i64 v5] 23)).cell? _ = some (.int .i64 v4) at d3
    change (w6.alloc (.cells #[.string p0, .int .i64 v1, .int .i64 v2, .int .i64 v4, .int .i64 v3, .int .i64 v5] 23)).cell? _ = some (.int .i64 v3) at d4
    change (w6.alloc (.cells #[.string p0, .int .i64 v1, .int .i64 v2, .int .i64 v4, .int .i64 v3, .int .i64 v5] 23)).cell? _ = some (.int .i64 v5) at d5
    generalize w6.alloc (.cells #[.string p0, .int .i64 v1, .int .i64 v2, .int .i64 v4, .int .i64 v3, .int .i64 v5] 23) = w7 at *
    rw [hg6] at d0 d1 d2 d3 d4 d5 hlt6
    have HOWN := Lib.hid (HOWN.out.below hba)
    have HB := Lib.hid (HB.out.trans (hba.mono (Nat.le_of_lt HLT.out)))
    have HLT := Lib.hid (Nat.lt_of_lt_of_le HLT.out hba.size)
    have HA := Lib.hid (HA.out.below hba)
    have HR := Lib.hid (HR.out.below hba)
    clear hba
    clear k0
    rw [hg6]
    have HG6 := Lib.hid hg6
    clear hg6
    clear d0 d1 d2 d3 d4 d5 hlt6
    have hown := HOWN.out
    have hle : w.heap.size ≤ w7.heap.size := Nat.le_of_lt HLT.out
    obtain ⟨nv, hnv⟩ : ∃ nv : Req, nv = Req.zero := ⟨_, rfl⟩
    have HY : Hid (([Req.zero] : List Req).set 0 Req.zero = [nv]) := Lib.hid (by rw [hnv]; rfl)
    have HN := Lib.hid hnv
    clear hnv
    go_wp2_with (with_reducible refine wpl_set Req.len (by decide) _ rfl 23 (.tmp 2) (.tmp 86) rfl w.heap.size 0 rfl _ rfl Req.zero rfl ?s1 (Req.one _) w.heap.size 23 1 1 0 [Req.zero] hown (by decide) rfl w.heap.size (Nat.le_refl _) ?s2 [nv] HY ?_)
    case s1 => kernel_rfl
    case s2 => omega
    intro wz hownz hbz _
    obtain ⟨c0, c1, c2, c3, c4, c5⟩ := Ow.sixth hownz
    have HE := Lib.hid (HB.out.trans hbz)
    clear hownz hbz hown hle
    go_wp2_with fail
    refine bodyPost_ret (v := .tuple #[.agg #[.string nv.star, .int .i64 nv.frm, .int .i64 nv.til, .int .i64 nv.want, .int .i64 nv.done, .int .i64 nv.prio], .bool false]) ((results_cell_tmp rfl _ _ _).trans ?r1) rfl ?_
    case r1 => go_simp
    exact ⟨(by rw [HX.out, HN.out]; try rfl), HE.out⟩
  | true =>
  cases g4 with
  | false =>
    have HX := Lib.hid (rdR_no (s := s) fun x hx => by
      obtain ⟨_, _, _, _, i4, _⟩ := hpart x hx
      rw [i4] at hg4
      cases hg4)
    clear hc hlen hA1 hB1 hC1 hD1 hb0 hcs hsl h1 h2 h3 h4 h5 hpart hv1 hv2 hv3 hv4 hv5 hg1 hg2 hg3 hg4 hg5 hgr hOk
    go_enter Tryd.func5, Tryd.ntmps5
    go_wp2_with fail
    have hown := Ow.oneG Req.len w Req.zero 23
    have hb0 : Below w.heap.size w (w.alloc (.cells Req.zero.enc.toArray 23)) := (Below.refl _ _).alloc (Nat.le_refl _) _
    have hlt : w.heap.size < (w.alloc (.cells Req.zero.enc.toArray 23)).heap.size := by simp
    change Calls _ _ _ (w.alloc (.cells Req.zero.enc.toArray 23)) _
    generalize w.alloc (.cells Req.zero.enc.toArray 23) = w0 at *
    have HOWN := Lib.hid hown
    have HB := Lib.hid hb0
    have HLT := Lib.hid hlt
    clear hown hb0 hlt
    have HA := Lib.hid (HA.out.below HB.out)
    refine (HS.out _ HA.out).mono ?_
    rintro e w1 ⟨a1, n1, c1, rfl, hn1, hr1, hb1⟩
    have HOWN := Lib.hid (HOWN.out.below hb1)
    have HB := Lib.hid (HB.out.trans (hb1.mono (Nat.le_of_lt HLT.out)))
    have HLT := Lib.hid (Nat.lt_of_lt_of_le HLT.out hb1.size)
    have HA := Lib.hid (HA.out.below hb1)
    clear hb1
    rw [HC.out] at hn1 hr1
    obtain rfl : n1 = 5 := hn1
    obtain ⟨b, o, rfl, hrow⟩ := rowN hr1
    have HR := Lib.hid hrow
    clear hrow hr1
    have k1 := HR.out.2 1 _ rfl
    go_wp2_with fail
    refine (HRG.out _ HA.out).mono ?_
    rintro e w2 ⟨rfl, hb2⟩
    have HOWN := Lib.hid (HOWN.out.below hb2)
    have HB := Lib.hid (HB.out.trans (hb2.mono (Nat.le_of_lt HLT.out)))
    have HLT := Lib.hid (Nat.lt_of_lt_of_le HLT.out hb2.size)
    have HA := Lib.hid (HA.out.below hb2)
    have HR := Lib.hid (HR.out.below hb2)
    clear hb2
    clear k1
    have k2 := HR.out.2 2 _ rfl
    go_wp2_with fail
    refine (HCU.out _ HA.out).mono ?_
    rintro e w3 ⟨rfl, hb3⟩
    have HOWN := Lib.hid (HOWN.out.below hb3)
    have HB := Lib.hid (HB.out.trans (hb3.mono (Nat.le_of_lt HLT.out)))
    have HLT := Lib.hid (Nat.lt_of_lt_of_le HLT.out hb3.size)
    have HA := Lib.hid (HA.out.below hb3)
    have HR := Lib.hid (HR.out.below hb3)
    clear hb3
    clear k2
    go_wp2_with fail
    refine (HN3.out _ HA.out).mono ?_
    rintro e w4 ⟨rfl, hb4⟩
    have HOWN := Lib.hid (HOWN.out.below hb4)
    have HB := Lib.hid (HB.out.trans (hb4.mono (Nat.le_of_lt HLT.out)))
    have HLT := Lib.hid (Nat.lt_of_lt_of_le HLT.out hb4.size)
    have HA := Lib.hid (HA.out.below hb4)
    have HR := Lib.hid (HR.out.below hb4)
    clear hb4
    go_wp2_with fail
    refine (HN4.out _ HA.out).mono ?_
    rintro e w5 ⟨rfl, hb5⟩
    have HOWN := Lib.hid (HOWN.out.below hb5)
    have HB := Lib.hid (HB.out.trans (hb5.mono (Nat.le_of_lt HLT.out)))
    have HLT := Lib.hid (Nat.lt_of_lt_of_le HLT.out hb5.size)
    have HA := Lib.hid (HA.out.below hb5)
    have HR := Lib.hid (HR.out.below hb5)
    clear hb5
    have k4 := HR.out.2 4 _ rfl
    go_wp2_with fail
    refine (HN5.out _ HA.out).mono ?_
    rintro e w6 ⟨rfl, hb6⟩
    have HOWN := Lib.hid (HOWN.out.below hb6)
    have HB := Lib.hid (HB.out.trans (hb6.mono (Nat.le_of_lt HLT.out)))
    have HLT := Lib.hid (Nat.lt_of_lt_of_le HLT.out hb6.size)
    have HA := Lib.hid (HA.out.below hb6)
    have HR := Lib.hid (HR.out.below hb6)
    clear hb6
    clear k4
    have k0 := HR.out.c0
    go_upto_region 10 with (fail)
    obtain ⟨d0, d1, d2, d3, d4, d5, hba⟩ := reqNew w6 (⟨p0, v1, v2, v4, v3, v5⟩ : Req)
    have hlt6 : w6.heap.size < (w6.alloc (.cells #[.string p0, .int .i64 v1, .int .i64 v2, .int .i64 v4, .int .i64 v3, .int .i64 v5] 23)).heap.size := by simp
    obtain ⟨g6, hg6⟩ : ∃ g, w6.heap.size = g := ⟨_, rfl⟩
    have hba : Below w6.heap.size w6 (w6.alloc (.cells #[.string p0, .int .i64 v1, .int .i64 v2, .int .i64 v4, .int .i64 v3, .int .i64 v5] 23)) := hba
    change (w6.alloc (.cells #[.string p0, .int .i64 v1, .int .i64 v2, .int .i64 v4, .int .i64 v3, .int .i64 v5] 23)).cell? _ = some (.string p0) at d0
    change (w6.alloc (.cells #[.string p0, .int .i64 v1, .int .i64 v2, .int .i64 v4, .int .i64 v3, .int .i64 v5] 23)).cell? _ = some (.int .i64 v1) at d1
    change (w6.alloc (.cells #[.string p0, .int .i64 v1, .int .i64 v2, .int .i64 v4, .int .i64 v3, .int .i64 v5] 23)).cell? _ = some (.int .i64 v2) at d2
    change (w6.alloc (.cells #[.string p0, .int .i64 v1, .int .i64 v2, .int .i64 v4, .int .i64 v3, .int .i64 v5] 23)).cell? _ = some (.int .i64 v4) at d3
    change (w6.alloc (.cells #[.string p0, .int .i64 v1, .int .i64 v2, .int .i64 v4, .int .i64 v3, .int .i64 v5] 23)).cell? _ = some (.int .i64 v3) at d4
    change (w6.alloc (.cells #[.string p0, .int .i64 v1, .int .i64 v2, .int .i64 v4, .int .i64 v3, .int .i64 v5] 23)).cell? _ = some (.int .i64 v5) at d5
    generalize w6.alloc (.cells #[.string p0, .int .i64 v1, .int .i64 v2, .int .i64 v4, .int .i64 v3, .int .i64 v5] 23) = w7 at *
    rw [hg6] at d0 d1 d2 d3 d4 d5 hlt6
    have HOWN := Lib.hid (HOWN.out.below hba)
    have HB := Lib.hid (HB.out.trans (hba.mono (Nat.le_of_lt HLT.out)))
    have HLT := Lib.hid (Nat.lt_of_lt_of_le HLT.out hba.size)
    have HA := Lib.hid (HA.out.below hba)
    have HR := Lib.hid (HR.out.below hba)
    clear hba
    clear k0
    rw [hg6]
    have HG6 := Lib.hid hg6
    clear hg6
    clear d0 d1 d2 d3 d4 d5 hlt6
    have hown := HOWN.out
    have hle : w.heap.size ≤ w7.heap.size := Nat.le_of_lt HLT.out
    obtain ⟨nv, hnv⟩ : ∃ nv : Req, nv = Req.zero := ⟨_, rfl⟩
    have HY : Hid (([Req.zero] : List Req).set 0 Req.zero = [nv]) := Lib.hid (by rw [hnv]; rfl)
    have HN := Lib.hid hnv
    clear hnv
    go_wp2_with (with_reducible refine wpl_set Req.len (by decide) _ rfl 23 (.tmp 2) (.tmp 86) rfl w.heap.size 0 rfl _ rfl Req.zero rfl ?s1 (Req.one _) w.heap.size 23 1 1 0 [Req.zero] hown (by decide) rfl w.heap.size (Nat.le_refl _) ?s2 [nv] HY ?_)
    case s1 => kernel_rfl
    case s2 => omega
    intro wz hownz hbz _
    obtain ⟨c0, c1, c2, c3, c4, c5⟩ := Ow.sixth hownz
    have HE := Lib.hid (HB.out.trans hbz)
    clear hownz hbz hown hle
    go_wp2_with fail
    refine bodyPost_ret (v := .tuple #[.agg #[.string nv.star, .int .i64 nv.frm, .int .i64 nv.til, .int .i64 nv.want, .int .i64 nv.done, .int .i64 nv.prio], .bool false]) ((results_cell_tmp rfl _ _ _).trans ?r1) rfl ?_
    case r1 => go_simp
    exact ⟨(by rw [HX.out, HN.out]; try rfl), HE.out⟩
  | true =>
  cases g5 with
  | false =>
    have HX := Lib.hid (rdR_no (s := s) fun x hx => by
      obtain ⟨_, _, _, _, _, i5⟩ := hpart x hx
      rw [i5] at hg5
      cases hg5)
    clear hc hlen hA1 hB1 hC1 hD1 hb0 hcs hsl h1 h2 h3 h4 h5 hpart hv1 hv2 hv3 hv4 hv5 hg1 hg2 hg3 hg4 hg5 hgr hOk
    go_enter Tryd.func5, Tryd.ntmps5
    go_wp2_with fail
    have hown := Ow.oneG Req.len w Req.zero 23
    have hb0 : Below w.heap.size w (w.alloc (.cells Req.zero.enc.toArray 23)) := (Below.refl _ _).alloc (Nat.le_refl _) _
    have hlt : w.heap.size < (w.alloc (.cells Req.zero.enc.toArray 23)).heap.size := by simp
    change Calls _ _ _ (w.alloc (.cells Req.zero.enc.toArray 23)) _
    generalize w.alloc (.cells Req.zero.enc.toArray 23) = w0 at *
    have HOWN := Lib.hid hown
    have HB := Lib.hid hb0
    have HLT := Lib.hid hlt
    clear hown hb0 hlt
    have HA := Lib.hid (HA.out.below HB.out)
    refine (HS.out _ HA.out).mono ?_
    rintro e w1 ⟨a1, n1, c1, rfl, hn1, hr1, hb1⟩
    have HOWN := Lib.hid (HOWN.out.below hb1)
    have HB := Lib.hid (HB.out.trans (hb1.mono (Nat.le_of_lt HLT.out)))
    have HLT := Lib.hid (Nat.lt_of_lt_of_le HLT.out hb1.size)
    have HA := Lib.hid (HA.out.below hb1)
    clear hb1
    rw [HC.out] at hn1 hr1
    obtain rfl : n1 = 5 := hn1
    obtain ⟨b, o, rfl, hrow⟩ := rowN hr1
    have HR := Lib.hid hrow
    clear hrow hr1
    have k1 := HR.out.2 1 _ rfl
    go_wp2_with fail
    refine (HRG.out _ HA.out).mono ?_
    rintro e w2 ⟨rfl, hb2⟩
    have HOWN := Lib.hid (HOWN.out.below hb2)
    have HB := Lib.hid (HB.out.trans (hb2.mono (Nat.le_of_lt HLT.out)))
    have HLT := Lib.hid (Nat.lt_of_lt_of_le HLT.out hb2.size)
    have HA := Lib.hid (HA.out.below hb2)
    have HR := Lib.hid (HR.out.below hb2)
    clear hb2
    clear k1
    have k2 := HR.out.2 2 _ rfl
    go_wp2_with fail
    refine (HCU.out _ HA.out).mono ?_
    rintro e w3 ⟨rfl, hb3⟩
    have HOWN := Lib.hid (HOWN.out.below hb3)
    have HB := Lib.hid (HB.out.trans (hb3.mono (Nat.le_of_lt HLT.out)))
    have HLT := Lib.hid (Nat.lt_of_lt_of_le HLT.out hb3.size)
    have HA := Lib.hid (HA.out.below hb3)
    have HR := Lib.hid (HR.out.below hb3)
    clear hb3
    clear k2
    go_wp2_with fail
    refine (HN3.out _ HA.out).mono ?_
    rintro e w4 ⟨rfl, hb4⟩
    have HOWN := Lib.hid (HOWN.out.below hb4)
    have HB := Lib.hid (HB.out.trans (hb4.mono (Nat.le_of_lt HLT.out)))
    have HLT := Lib.hid (Nat.lt_of_lt_of_le HLT.out hb4.size)
    have HA := Lib.hid (HA.out.below hb4)
    have HR := Lib.hid (HR.out.below hb4)
    clear hb4
    go_wp2_with fail
    refine (HN4.out _ HA.out).mono ?_
    rintro e w5 ⟨rfl, hb5⟩
    have HOWN := Lib.hid (HOWN.out.below hb5)
    have HB := Lib.hid (HB.out.trans (hb5.mono (Nat.le_of_lt HLT.out)))
    have HLT := Lib.hid (Nat.lt_of_lt_of_le HLT.out hb5.size)
    have HA := Lib.hid (HA.out.below hb5)
    have HR := Lib.hid (HR.out.below hb5)
    clear hb5
    have k4 := HR.out.2 4 _ rfl
    go_wp2_with fail
    refine (HN5.out _ HA.out).mono ?_
    rintro e w6 ⟨rfl, hb6⟩
    have HOWN := Lib.hid (HOWN.out.below hb6)
    have HB := Lib.hid (HB.out.trans (hb6.mono (Nat.le_of_lt HLT.out)))
    have HLT := Lib.hid (Nat.lt_of_lt_of_le HLT.out hb6.size)
    have HA := Lib.hid (HA.out.below hb6)
    have HR := Lib.hid (HR.out.below hb6)
    clear hb6
    clear k4
    have k0 := HR.out.c0
    go_upto_region 10 with (fail)
    obtain ⟨d0, d1, d2, d3, d4, d5, hba⟩ := reqNew w6 (⟨p0, v1, v2, v4, v3, v5⟩ : Req)
    have hlt6 : w6.heap.size < (w6.alloc (.cells #[.string p0, .int .i64 v1, .int .i64 v2, .int .i64 v4, .int .i64 v3, .int .i64 v5] 23)).heap.size := by simp
    obtain ⟨g6, hg6⟩ : ∃ g, w6.heap.size = g := ⟨_, rfl⟩
    have hba : Below w6.heap.size w6 (w6.alloc (.cells #[.string p0, .int .i64 v1, .int .i64 v2, .int .i64 v4, .int .i64 v3, .int .i64 v5] 23)) := hba
    change (w6.alloc (.cells #[.string p0, .int .i64 v1, .int .i64 v2, .int .i64 v4, .int .i64 v3, .int .i64 v5] 23)).cell? _ = some (.string p0) at d0
    change (w6.alloc (.cells #[.string p0, .int .i64 v1, .int .i64 v2, .int .i64 v4, .int .i64 v3, .int .i64 v5] 23)).cell? _ = some (.int .i64 v1) at d1
    change (w6.alloc (.cells #[.string p0, .int .i64 v1, .int .i64 v2, .int .i64 v4, .int .i64 v3, .int .i64 v5] 23)).cell? _ = some (.int .i64 v2) at d2
    change (w6.alloc (.cells #[.string p0, .int .i64 v1, .int .i64 v2, .int .i64 v4, .int .i64 v3, .int .i64 v5] 23)).cell? _ = some (.int .i64 v4) at d3
    change (w6.alloc (.cells #[.string p0, .int .i64 v1, .int .i64 v2, .int .i64 v4, .int .i64 v3, .int .i64 v5] 23)).cell? _ = some (.int .i64 v3) at d4
    change (w6.alloc (.cells #[.string p0, .int .i64 v1, .int .i64 v2, .int .i64 v4, .int .i64 v3, .int .i64 v5] 23)).cell? _ = some (.int .i64 v5) at d5
    generalize w6.alloc (.cells #[.string p0, .int .i64 v1, .int .i64 v2, .int .i64 v4, .int .i64 v3, .int .i64 v5] 23) = w7 at *
    rw [hg6] at d0 d1 d2 d3 d4 d5 hlt6
    have HOWN := Lib.hid (HOWN.out.below hba)
    have HB := Lib.hid (HB.out.trans (hba.mono (Nat.le_of_lt HLT.out)))
    have HLT := Lib.hid (Nat.lt_of_lt_of_le HLT.out hba.size)
    have HA := Lib.hid (HA.out.below hba)
    have HR := Lib.hid (HR.out.below hba)
    clear hba
    clear k0
    rw [hg6]
    have HG6 := Lib.hid hg6
    clear hg6
    clear d0 d1 d2 d3 d4 d5 hlt6
    have hown := HOWN.out
    have hle : w.heap.size ≤ w7.heap.size := Nat.le_of_lt HLT.out
    obtain ⟨nv, hnv⟩ : ∃ nv : Req, nv = Req.zero := ⟨_, rfl⟩
    have HY : Hid (([Req.zero] : List Req).set 0 Req.zero = [nv]) := Lib.hid (by rw [hnv]; rfl)
    have HN := Lib.hid hnv
    clear hnv
    go_wp2_with (with_reducible refine wpl_set Req.len (by decide) _ rfl 23 (.tmp 2) (.tmp 86) rfl w.heap.size 0 rfl _ rfl Req.zero rfl ?s1 (Req.one _) w.heap.size 23 1 1 0 [Req.zero] hown (by decide) rfl w.heap.size (Nat.le_refl _) ?s2 [nv] HY ?_)
    case s1 => kernel_rfl
    case s2 => omega
    intro wz hownz hbz _
    obtain ⟨c0, c1, c2, c3, c4, c5⟩ := Ow.sixth hownz
    have HE := Lib.hid (HB.out.trans hbz)
    clear hownz hbz hown hle
    go_wp2_with fail
    refine bodyPost_ret (v := .tuple #[.agg #[.string nv.star, .int .i64 nv.frm, .int .i64 nv.til, .int .i64 nv.want, .int .i64 nv.done, .int .i64 nv.prio], .bool false]) ((results_cell_tmp rfl _ _ _).trans ?r1) rfl ?_
    case r1 => go_simp
    exact ⟨(by rw [HX.out, HN.out]; try rfl), HE.out⟩
  | true =>
  by_cases htx : reqText (⟨p0, v1, v2, v4, v3, v5⟩ : Req) = s
  case neg =>
    have HX := Lib.hid (rdR_no (s := s) fun x hx => by
      obtain ⟨i0, i1, i2, i3, i4, i5⟩ := hpart x hx
      have e : (⟨p0, v1, v2, v4, v3, v5⟩ : Req) = x := by
        rw [← hv1, ← hv2, ← hv3, ← hv4, ← hv5, i0, i1, i2, i3, i4, i5]
        rfl
      rw [e] at htx
      exact htx (by unfold reqText; rw [if_pos hx.1]; exact hx.2))
    have e3 : ((reqText (⟨p0, v1, v2, v4, v3, v5⟩ : Req)).toList == s.toList) = false := by rw [beq_eq_false_iff_ne]; intro e; rw [toL, toL] at e; exact htx (ba_ext e)
    obtain ⟨T, hT⟩ : ∃ T, reqText (⟨p0, v1, v2, v4, v3, v5⟩ : Req) = T := ⟨_, rfl⟩
    rw [hT] at e3
    have HTX : Hid (∀ wq, TabOk wq → Calls Tryd.prog 15 #[.agg #[.string p0, .int .i64 v1, .int .i64 v2, .int .i64 v4, .int .i64 v3, .int .i64 v5]] wq fun e w' => e = .returned (.string T) ∧ Below wq.heap.size wq w') := Lib.hid fun wq hq => by rw [← hT]; exact implText _ wq hOk hq
    clear hc hlen hA1 hB1 hC1 hD1 hb0 hcs hsl h1 h2 h3 h4 h5 hpart hv1 hv2 hv3 hv4 hv5 hg1 hg2 hg3 hg4 hg5 hgr hOk htx hT
    go_enter Tryd.func5, Tryd.ntmps5
    go_wp2_with fail
    have hown := Ow.oneG Req.len w Req.zero 23
    have hb0 : Below w.heap.size w (w.alloc (.cells Req.zero.enc.toArray 23)) := (Below.refl _ _).alloc (Nat.le_refl _) _
    have hlt : w.heap.size < (w.alloc (.cells Req.zero.enc.toArray 23)).heap.size := by simp
    change Calls _ _ _ (w.alloc (.cells Req.zero.enc.toArray 23)) _
    generalize w.alloc (.cells Req.zero.enc.toArray 23) = w0 at *
    have HOWN := Lib.hid hown
    have HB := Lib.hid hb0
    have HLT := Lib.hid hlt
    clear hown hb0 hlt
    have HA := Lib.hid (HA.out.below HB.out)
    refine (HS.out _ HA.out).mono ?_
    rintro e w1 ⟨a1, n1, c1, rfl, hn1, hr1, hb1⟩
    have HOWN := Lib.hid (HOWN.out.below hb1)
    have HB := Lib.hid (HB.out.trans (hb1.mono (Nat.le_of_lt HLT.out)))
    have HLT := Lib.hid (Nat.lt_of_lt_of_le HLT.out hb1.size)
    have HA := Lib.hid (HA.out.below hb1)
    clear hb1
    rw [HC.out] at hn1 hr1
    obtain rfl : n1 = 5 := hn1
    obtain ⟨b, o, rfl, hrow⟩ := rowN hr1
    have HR := Lib.hid hrow
    clear hrow hr1
    have k1 := HR.out.2 1 _ rfl
    go_wp2_with fail
    refine (HRG.out _ HA.out).mono ?_
    rintro e w2 ⟨rfl, hb2⟩
    have HOWN := Lib.hid (HOWN.out.below hb2)
    have HB := Lib.hid (HB.out.trans (hb2.mono (Nat.le_of_lt HLT.out)))
    have HLT := Lib.hid (Nat.lt_of_lt_of_le HLT.out hb2.size)
    have HA := Lib.hid (HA.out.below hb2)
    have HR := Lib.hid (HR.out.below hb2)
    clear hb2
    clear k1
    have k2 := HR.out.2 2 _ rfl
    go_wp2_with fail
    refine (HCU.out _ HA.out).mono ?_
    rintro e w3 ⟨rfl, hb3⟩
    have HOWN := Lib.hid (HOWN.out.below hb3)
    have HB := Lib.hid (HB.out.trans (hb3.mono (Nat.le_of_lt HLT.out)))
    have HLT := Lib.hid (Nat.lt_of_lt_of_le HLT.out hb3.size)
    have HA := Lib.hid (HA.out.below hb3)
    have HR := Lib.hid (HR.out.below hb3)
    clear hb3
    clear k2
    go_wp2_with fail
    refine (HN3.out _ HA.out).mono ?_
    rintro e w4 ⟨rfl, hb4⟩
    have HOWN := Lib.hid (HOWN.out.below hb4)
    have HB := Lib.hid (HB.out.trans (hb4.mono (Nat.le_of_lt HLT.out)))
    have HLT := Lib.hid (Nat.lt_of_lt_of_le HLT.out hb4.size)
    have HA := Lib.hid (HA.out.below hb4)
    have HR := Lib.hid (HR.out.below hb4)
    clear hb4
    go_wp2_with fail
    refine (HN4.out _ HA.out).mono ?_
    rintro e w5 ⟨rfl, hb5⟩
    have HOWN := Lib.hid (HOWN.out.below hb5)
    have HB := Lib.hid (HB.out.trans (hb5.mono (Nat.le_of_lt HLT.out)))
    have HLT := Lib.hid (Nat.lt_of_lt_of_le HLT.out hb5.size)
    have HA := Lib.hid (HA.out.below hb5)
    have HR := Lib.hid (HR.out.below hb5)
    clear hb5
    have k4 := HR.out.2 4 _ rfl
    go_wp2_with fail
    refine (HN5.out _ HA.out).mono ?_
    rintro e w6 ⟨rfl, hb6⟩
    have HOWN := Lib.hid (HOWN.out.below hb6)
    have HB := Lib.hid (HB.out.trans (hb6.mono (Nat.le_of_lt HLT.out)))
    have HLT := Lib.hid (Nat.lt_of_lt_of_le HLT.out hb6.size)
    have HA := Lib.hid (HA.out.below hb6)
    have HR := Lib.hid (HR.out.below hb6)
    clear hb6
    clear k4
    have k0 := HR.out.c0
    go_upto_region 10 with (fail)
    obtain ⟨d0, d1, d2, d3, d4, d5, hba⟩ := reqNew w6 (⟨p0, v1, v2, v4, v3, v5⟩ : Req)
    have hlt6 : w6.heap.size < (w6.alloc (.cells #[.string p0, .int .i64 v1, .int .i64 v2, .int .i64 v4, .int .i64 v3, .int .i64 v5] 23)).heap.size := by simp
    obtain ⟨g6, hg6⟩ : ∃ g, w6.heap.size = g := ⟨_, rfl⟩
    have hba : Below w6.heap.size w6 (w6.alloc (.cells #[.string p0, .int .i64 v1, .int .i64 v2, .int .i64 v4, .int .i64 v3, .int .i64 v5] 23)) := hba
    change (w6.alloc (.cells #[.string p0, .int .i64 v1, .int .i64 v2, .int .i64 v4, .int .i64 v3, .int .i64 v5] 23)).cell? _ = some (.string p0) at d0
    change (w6.alloc (.cells #[.string p0, .int .i64 v1, .int .i64 v2, .int .i64 v4, .int .i64 v3, .int .i64 v5] 23)).cell? _ = some (.int .i64 v1) at d1
    change (w6.alloc (.cells #[.string p0, .int .i64 v1, .int .i64 v2, .int .i64 v4, .int .i64 v3, .int .i64 v5] 23)).cell? _ = some (.int .i64 v2) at d2
    change (w6.alloc (.cells #[.string p0, .int .i64 v1, .int .i64 v2, .int .i64 v4, .int .i64 v3, .int .i64 v5] 23)).cell? _ = some (.int .i64 v4) at d3
    change (w6.alloc (.cells #[.string p0, .int .i64 v1, .int .i64 v2, .int .i64 v4, .int .i64 v3, .int .i64 v5] 23)).cell? _ = some (.int .i64 v3) at d4
    change (w6.alloc (.cells #[.string p0, .int .i64 v1, .int .i64 v2, .int .i64 v4, .int .i64 v3, .int .i64 v5] 23)).cell? _ = some (.int .i64 v5) at d5
    generalize w6.alloc (.cells #[.string p0, .int .i64 v1, .int .i64 v2, .int .i64 v4, .int .i64 v3, .int .i64 v5] 23) = w7 at *
    rw [hg6] at d0 d1 d2 d3 d4 d5 hlt6
    have HOWN := Lib.hid (HOWN.out.below hba)
    have HB := Lib.hid (HB.out.trans (hba.mono (Nat.le_of_lt HLT.out)))
    have HLT := Lib.hid (Nat.lt_of_lt_of_le HLT.out hba.size)
    have HA := Lib.hid (HA.out.below hba)
    have HR := Lib.hid (HR.out.below hba)
    clear hba
    clear k0
    rw [hg6]
    have HG6 := Lib.hid hg6
    clear hg6
    have HD : Hid (∀ wq, Below w7.heap.size w7 wq → wq.cell? ⟨g6, 0, none⟩ = some (.string p0) ∧ wq.cell? ⟨g6, 1, none⟩ = some (.int .i64 v1) ∧ wq.cell? ⟨g6, 2, none⟩ = some (.int .i64 v2) ∧ wq.cell? ⟨g6, 3, none⟩ = some (.int .i64 v4) ∧ wq.cell? ⟨g6, 4, none⟩ = some (.int .i64 v3) ∧ wq.cell? ⟨g6, 5, none⟩ = some (.int .i64 v5)) := Lib.hid fun wq hb =>
      ⟨(hb.cell (p := ⟨g6, 0, none⟩) hlt6).trans d0, (hb.cell (p := ⟨g6, 1, none⟩) hlt6).trans d1, (hb.cell (p := ⟨g6, 2, none⟩) hlt6).trans d2, (hb.cell (p := ⟨g6, 3, none⟩) hlt6).trans d3, (hb.cell (p := ⟨g6, 4, none⟩) hlt6).trans d4, (hb.cell (p := ⟨g6, 5, none⟩) hlt6).trans d5⟩
    go_wp2_with fail
    refine (HTX.out _ HA.out.t).mono ?_
    rintro e w8 ⟨rfl, hb8⟩
    clear d0 d1 d2 d3 d4 d5
    obtain ⟨f0, f1, f2, f3, f4, f5⟩ := HD.out w8 hb8
    have HOWN := Lib.hid (HOWN.out.below hb8)
    have HB := Lib.hid (HB.out.trans (hb8.mono (Nat.le_of_lt HLT.out)))
    have HLT := Lib.hid (Nat.lt_of_lt_of_le HLT.out hb8.size)
    have HA := Lib.hid (HA.out.below hb8)
    have HR := Lib.hid (HR.out.below hb8)
    clear hb8
    clear f0 f1 f2 f3 f4 f5
    have hown := HOWN.out
    have hle : w.heap.size ≤ w8.heap.size := Nat.le_of_lt HLT.out
    obtain ⟨nv, hnv⟩ : ∃ nv : Req, nv = Req.zero := ⟨_, rfl⟩
    have HY : Hid (([Req.zero] : List Req).set 0 Req.zero = [nv]) := Lib.hid (by rw [hnv]; rfl)
    have HN := Lib.hid hnv
    clear hnv
    go_wp2_with (with_reducible refine wpl_set Req.len (by decide) _ rfl 23 (.tmp 2) (.tmp 86) rfl w.heap.size 0 rfl _ rfl Req.zero rfl ?s1 (Req.one _) w.heap.size 23 1 1 0 [Req.zero] hown (by decide) rfl w.heap.size (Nat.le_refl _) ?s2 [nv] HY ?_)
    case s1 => kernel_rfl
    case s2 => omega
    intro wz hownz hbz _
    obtain ⟨c0, c1, c2, c3, c4, c5⟩ := Ow.sixth hownz
    have HE := Lib.hid (HB.out.trans hbz)
    clear hownz hbz hown hle
    go_wp2_with fail
    refine bodyPost_ret (v := .tuple #[.agg #[.string nv.star, .int .i64 nv.frm, .int .i64 nv.til, .int .i64 nv.want, .int .i64 nv.done, .int .i64 nv.prio], .bool false]) ((results_cell_tmp rfl _ _ _).trans ?r1) rfl ?_
    case r1 => go_simp
    exact ⟨(by rw [HX.out, HN.out]; try rfl), HE.out⟩
  case pos =>
    have hrq : RdQ s (⟨p0, v1, v2, v4, v3, v5⟩ : Req) := by
      unfold reqText at htx
      split at htx
      · rename_i hB
        exact ⟨hB, htx⟩
      · exfalso
        have h9 := cutC_le 32 s
        rw [hlen, ← htx] at h9
        have e9 : (⟨#[]⟩ : ByteArray).size = 0 := rfl
        omega
    have HX := Lib.hid (rdR_yes hrq)
    have e3 : (s.toList != s.toList) = false := by simp
    have HTX : Hid (∀ wq, TabOk wq → Calls Tryd.prog 15 #[.agg #[.string p0, .int .i64 v1, .int .i64 v2, .int .i64 v4, .int .i64 v3, .int .i64 v5]] wq fun e w' => e = .returned (.string s) ∧ Below wq.heap.size wq w') := Lib.hid fun wq hq => by have := implText _ wq hOk hq; rw [htx] at this; exact this
    clear hc hlen hA1 hB1 hC1 hD1 hb0 hcs hsl h1 h2 h3 h4 h5 hpart hv1 hv2 hv3 hv4 hv5 hg1 hg2 hg3 hg4 hg5 hgr hOk htx hrq
    go_enter Tryd.func5, Tryd.ntmps5
    go_wp2_with fail
    have hown := Ow.oneG Req.len w Req.zero 23
    have hb0 : Below w.heap.size w (w.alloc (.cells Req.zero.enc.toArray 23)) := (Below.refl _ _).alloc (Nat.le_refl _) _
    have hlt : w.heap.size < (w.alloc (.cells Req.zero.enc.toArray 23)).heap.size := by simp
    change Calls _ _ _ (w.alloc (.cells Req.zero.enc.toArray 23)) _
    generalize w.alloc (.cells Req.zero.enc.toArray 23) = w0 at *
    have HOWN := Lib.hid hown
    have HB := Lib.hid hb0
    have HLT := Lib.hid hlt
    clear hown hb0 hlt
    have HA := Lib.hid (HA.out.below HB.out)
    refine (HS.out _ HA.out).mono ?_
    rintro e w1 ⟨a1, n1, c1, rfl, hn1, hr1, hb1⟩
    have HOWN := Lib.hid (HOWN.out.below hb1)
    have HB := Lib.hid (HB.out.trans (hb1.mono (Nat.le_of_lt HLT.out)))
    have HLT := Lib.hid (Nat.lt_of_lt_of_le HLT.out hb1.size)
    have HA := Lib.hid (HA.out.below hb1)
    clear hb1
    rw [HC.out] at hn1 hr1
    obtain rfl : n1 = 5 := hn1
    obtain ⟨b, o, rfl, hrow⟩ := rowN hr1
    have HR := Lib.hid hrow
    clear hrow hr1
    have k1 := HR.out.2 1 _ rfl
    go_wp2_with fail
    refine (HRG.out _ HA.out).mono ?_
    rintro e w2 ⟨rfl, hb2⟩
    have HOWN := Lib.hid (HOWN.out.below hb2)
    have HB := Lib.hid (HB.out.trans (hb2.mono (Nat.le_of_lt HLT.out)))
    have HLT := Lib.hid (Nat.lt_of_lt_of_le HLT.out hb2.size)
    have HA := Lib.hid (HA.out.below hb2)
    have HR := Lib.hid (HR.out.below hb2)
    clear hb2
    clear k1
    have k2 := HR.out.2 2 _ rfl
    go_wp2_with fail
    refine (HCU.out _ HA.out).mono ?_
    rintro e w3 ⟨rfl, hb3⟩
    have HOWN := Lib.hid (HOWN.out.below hb3)
    have HB := Lib.hid (HB.out.trans (hb3.mono (Nat.le_of_lt HLT.out)))
    have HLT := Lib.hid (Nat.lt_of_lt_of_le HLT.out hb3.size)
    have HA := Lib.hid (HA.out.below hb3)
    have HR := Lib.hid (HR.out.below hb3)
    clear hb3
    clear k2
    go_wp2_with fail
    refine (HN3.out _ HA.out).mono ?_
    rintro e w4 ⟨rfl, hb4⟩
    have HOWN := Lib.hid (HOWN.out.below hb4)
    have HB := Lib.hid (HB.out.trans (hb4.mono (Nat.le_of_lt HLT.out)))
    have HLT := Lib.hid (Nat.lt_of_lt_of_le HLT.out hb4.size)
    have HA := Lib.hid (HA.out.below hb4)
    have HR := Lib.hid (HR.out.below hb4)
    clear hb4
    go_wp2_with fail
    refine (HN4.out _ HA.out).mono ?_
    rintro e w5 ⟨rfl, hb5⟩
    have HOWN := Lib.hid (HOWN.out.below hb5)
    have HB := Lib.hid (HB.out.trans (hb5.mono (Nat.le_of_lt HLT.out)))
    have HLT := Lib.hid (Nat.lt_of_lt_of_le HLT.out hb5.size)
    have HA := Lib.hid (HA.out.below hb5)
    have HR := Lib.hid (HR.out.below hb5)
    clear hb5
    have k4 := HR.out.2 4 _ rfl
    go_wp2_with fail
    refine (HN5.out _ HA.out).mono ?_
    rintro e w6 ⟨rfl, hb6⟩
    have HOWN := Lib.hid (HOWN.out.below hb6)
    have HB := Lib.hid (HB.out.trans (hb6.mono (Nat.le_of_lt HLT.out)))
    have HLT := Lib.hid (Nat.lt_of_lt_of_le HLT.out hb6.size)
    have HA := Lib.hid (HA.out.below hb6)
    have HR := Lib.hid (HR.out.below hb6)
    clear hb6
    clear k4
    have k0 := HR.out.c0
    go_upto_region 10 with (fail)
    obtain ⟨d0, d1, d2, d3, d4, d5, hba⟩ := reqNew w6 (⟨p0, v1, v2, v4, v3, v5⟩ : Req)
    have hlt6 : w6.heap.size < (w6.alloc (.cells #[.string p0, .int .i64 v1, .int .i64 v2, .int .i64 v4, .int .i64 v3, .int .i64 v5] 23)).heap.size := by simp
    obtain ⟨g6, hg6⟩ : ∃ g, w6.heap.size = g := ⟨_, rfl⟩
    have hba : Below w6.heap.size w6 (w6.alloc (.cells #[.string p0, .int .i64 v1, .int .i64 v2, .int .i64 v4, .int .i64 v3, .int .i64 v5] 23)) := hba
    change (w6.alloc (.cells #[.string p0, .int .i64 v1, .int .i64 v2, .int .i64 v4, .int .i64 v3, .int .i64 v5] 23)).cell? _ = some (.string p0) at d0
    change (w6.alloc (.cells #[.string p0, .int .i64 v1, .int .i64 v2, .int .i64 v4, .int .i64 v3, .int .i64 v5] 23)).cell? _ = some (.int .i64 v1) at d1
    change (w6.alloc (.cells #[.string p0, .int .i64 v1, .int .i64 v2, .int .i64 v4, .int .i64 v3, .int .i64 v5] 23)).cell? _ = some (.int .i64 v2) at d2
    change (w6.alloc (.cells #[.string p0, .int .i64 v1, .int .i64 v2, .int .i64 v4, .int .i64 v3, .int .i64 v5] 23)).cell? _ = some (.int .i64 v4) at d3
    change (w6.alloc (.cells #[.string p0, .int .i64 v1, .int .i64 v2, .int .i64 v4, .int .i64 v3, .int .i64 v5] 23)).cell? _ = some (.int .i64 v3) at d4
    change (w6.alloc (.cells #[.string p0, .int .i64 v1, .int .i64 v2, .int .i64 v4, .int .i64 v3, .int .i64 v5] 23)).cell? _ = some (.int .i64 v5) at d5
    generalize w6.alloc (.cells #[.string p0, .int .i64 v1, .int .i64 v2, .int .i64 v4, .int .i64 v3, .int .i64 v5] 23) = w7 at *
    rw [hg6] at d0 d1 d2 d3 d4 d5 hlt6
    have HOWN := Lib.hid (HOWN.out.below hba)
    have HB := Lib.hid (HB.out.trans (hba.mono (Nat.le_of_lt HLT.out)))
    have HLT := Lib.hid (Nat.lt_of_lt_of_le HLT.out hba.size)
    have HA := Lib.hid (HA.out.below hba)
    have HR := Lib.hid (HR.out.below hba)
    clear hba
    clear k0
    rw [hg6]
    have HG6 := Lib.hid hg6
    clear hg6
    have HD : Hid (∀ wq, Below w7.heap.size w7 wq → wq.cell? ⟨g6, 0, none⟩ = some (.string p0) ∧ wq.cell? ⟨g6, 1, none⟩ = some (.int .i64 v1) ∧ wq.cell? ⟨g6, 2, none⟩ = some (.int .i64 v2) ∧ wq.cell? ⟨g6, 3, none⟩ = some (.int .i64 v4) ∧ wq.cell? ⟨g6, 4, none⟩ = some (.int .i64 v3) ∧ wq.cell? ⟨g6, 5, none⟩ = some (.int .i64 v5)) := Lib.hid fun wq hb =>
      ⟨(hb.cell (p := ⟨g6, 0, none⟩) hlt6).trans d0, (hb.cell (p := ⟨g6, 1, none⟩) hlt6).trans d1, (hb.cell (p := ⟨g6, 2, none⟩) hlt6).trans d2, (hb.cell (p := ⟨g6, 3, none⟩) hlt6).trans d3, (hb.cell (p := ⟨g6, 4, none⟩) hlt6).trans d4, (hb.cell (p := ⟨g6, 5, none⟩) hlt6).trans d5⟩
    go_wp2_with fail
    refine (HTX.out _ HA.out.t).mono ?_
    rintro e w8 ⟨rfl, hb8⟩
    clear d0 d1 d2 d3 d4 d5
    obtain ⟨f0, f1, f2, f3, f4, f5⟩ := HD.out w8 hb8
    have HOWN := Lib.hid (HOWN.out.below hb8)
    have HB := Lib.hid (HB.out.trans (hb8.mono (Nat.le_of_lt HLT.out)))
    have HLT := Lib.hid (Nat.lt_of_lt_of_le HLT.out hb8.size)
    have HA := Lib.hid (HA.out.below hb8)
    have HR := Lib.hid (HR.out.below hb8)
    clear hb8
    have hown := HOWN.out
    have hle : w.heap.size ≤ w8.heap.size := Nat.le_of_lt HLT.out
    obtain ⟨nv, hnv⟩ : ∃ nv : Req, nv = (⟨p0, v1, v2, v4, v3, v5⟩ : Req) := ⟨_, rfl⟩
    have HY : Hid (([Req.zero] : List Req).set 0 (⟨p0, v1, v2, v4, v3, v5⟩ : Req) = [nv]) := Lib.hid (by rw [hnv]; rfl)
    have HN := Lib.hid hnv
    clear hnv
    go_wp2_with (with_reducible refine wpl_set Req.len (by decide) _ rfl 23 (.tmp 2) (.tmp 87) rfl w.heap.size 0 rfl _ rfl (⟨p0, v1, v2, v4, v3, v5⟩ : Req) rfl ?s1 (Req.one _) w.heap.size 23 1 1 0 [Req.zero] hown (by decide) rfl w.heap.size (Nat.le_refl _) ?s2 [nv] HY ?_)
    case s1 => kernel_rfl
    case s2 => omega
    intro wz hownz hbz _
    obtain ⟨c0, c1, c2, c3, c4, c5⟩ := Ow.sixth hownz
    have HE := Lib.hid (HB.out.trans hbz)
    clear hownz hbz hown hle
    go_wp2_with fail
    refine bodyPost_ret (v := .tuple #[.agg #[.string nv.star, .int .i64 nv.frm, .int .i64 nv.til, .int .i64 nv.want, .int .i64 nv.done, .int .i64 nv.prio], .bool true]) ((results_cell_tmp rfl _ _ _).trans ?r1) rfl ?_
    case r1 => go_simp
    exact ⟨(by rw [HX.out, HN.out]; try rfl), HE.out⟩
end Go.Proofs.YtdpmdifdnneinaaDoor
