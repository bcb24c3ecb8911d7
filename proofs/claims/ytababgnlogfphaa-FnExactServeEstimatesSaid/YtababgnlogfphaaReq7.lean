/-
  ServeEstimates: estimates are counted one after the other.
-/
import Derived.Test.YtababgnlogfphaaReq4
import Derived.Test.YtababgnlogfphaaEst3
namespace Go.Proofs.Ytababgnlogfphaa
open Go.RowKit
set_option maxRecDepth 100000

def sesK (rs : List Req) (es : List Est) (k : Nat) : List Req := (es.take k).foldl (fun L e => srvL e.star e.time L) rs
theorem sesK_step {rs : List Req} {es : List Est} {k : Nat} {e : Est} (h : es.take (k + 1) = es.take k ++ [e]) : srvL e.star e.time (sesK rs es k) = sesK rs es (k + 1) := by
  unfold sesK; rw [h, List.foldl_append]; rfl
theorem sesK_len (rs : List Req) (es : List Est) (k : Nat) : (sesK rs es k).length = rs.length := by
  unfold sesK
  suffices ∀ (us : List Est) (L : List Req), (us.foldl (fun L e => srvL e.star e.time L) L).length = L.length from this _ _
  intro us
  induction us with
  | nil => intro L; rfl
  | cons u us ih => intro L; rw [List.foldl_cons, ih, srvL_len]
theorem sesK_ok {rs : List Req} {es : List Est} {k : Nat} (h : ∀ v ∈ rs, Req.Ok v) : ∀ v ∈ sesK rs es k, Req.Ok v := by
  unfold sesK
  suffices ∀ (us : List Est) (L : List Req), (∀ v ∈ L, Req.Ok v) → ∀ v ∈ (us.foldl (fun L e => srvL e.star e.time L) L), Req.Ok v from this _ _ h
  intro us
  induction us with
  | nil => intro L h; exact h
  | cons u us ih => intro L h; rw [List.foldl_cons]; exact ih _ (srvL_ok h)
def sesC (rs : List Req) (es : List Est) : Int := if reqsB rs = true then (if estsB es = true then 0 else 1) else 1
def sesL (rs : List Req) (es : List Est) : List Req := if sesC rs es = 0 then sesK rs es es.length else []
theorem sesC_bad {rs : List Req} {es : List Est} (h : reqsB rs = false) : sesC rs es = 1 := by simp [sesC, h]
theorem sesC_no {rs : List Req} {es : List Est} (h : reqsB rs = true) (h2 : estsB es = false) : sesC rs es = 1 := by simp [sesC, h, h2]
theorem sesC_ok {rs : List Req} {es : List Est} (h : reqsB rs = true) (h2 : estsB es = true) : sesC rs es = 0 := by simp [sesC, h, h2]

section
variable (rs : List Req) (es : List Est) (a0 a1 : Option Addr) (n0 n1 c0 c1 : Nat) (w : World) (hn0 : n0 ≤ 1048576) (hn1 : n1 ≤ 1048576) (hl0 : rs.length = n0) (hl1 : es.length = n1) (ho : ∀ v ∈ rs, Req.Ok v) (ho1 : ∀ v ∈ es, Est.Ok v) (hr0 : Rd Req.enc 6 w a0 rs) (hr1 : Rd Est.enc 5 w a1 es)
include hn0 hn1 hl0 hl1 ho ho1 hr0 hr1

set_option maxHeartbeats 4000000 in
theorem specSes : Calls Try.prog 26 #[.slice a0 n0 c0, .slice a1 n1 c1] w fun e w' => ∃ a' n' c', e = .returned (.tuple #[.slice a' n' c', .int .i64 (sesC rs es)]) ∧ n' ≤ 1048576 ∧ Ow Req.enc 6 w' w.heap.size 53 (.slice a' n' c') n' (sesL rs es) ∧ Below w.heap.size w w' := by
  have HL := Lib.hid hl0
  have HM := Lib.hid hl1
  have HO := Lib.hid ho
  have HP := Lib.hid ho1
  clear hl0 hl1 ho ho1
  cases hv : reqsB rs with
  | false =>
    have HN : Hid (sesL rs es = []) := Lib.hid (by rw [sesL, sesC_bad hv]; rfl)
    rw [sesC_bad hv]
    have HV := Lib.hid hv
    clear hv
    go_enter Try.func26, Try.ntmps26
    go_wp2_with fail
    refine (l22Ok_any rs a0 n0 c0 _ hn0 HL.out HO.out hr0).mono ?_
    rintro e w1 ⟨rfl, hb⟩
    rw [HV.out]
    go_wp2_with fail
    go_ret2
    exact ⟨none, 0, 0, rfl, by omega, by rw [HN.out]; exact Ow.nil _ _ _, hb⟩
  | true =>
  cases ht : estsB es with
  | false =>
    have HN : Hid (sesL rs es = []) := Lib.hid (by rw [sesL, sesC_no hv ht]; rfl)
    rw [sesC_no hv ht]
    have HV := Lib.hid hv
    have HT := Lib.hid ht
    clear hv ht
    go_enter Try.func26, Try.ntmps26
    go_wp2_with fail
    refine (l22Ok_any rs a0 n0 c0 _ hn0 HL.out HO.out hr0).mono ?_
    rintro e w1 ⟨rfl, hb⟩
    rw [HV.out]
    go_wp2_with fail
    refine (l06Ok_any es a1 n1 c1 _ hn1 HM.out HP.out (hr1.below hb)).mono ?_
    rintro e w2 ⟨rfl, hb2⟩
    rw [HT.out]
    go_wp2_with fail
    go_ret2
    exact ⟨none, 0, 0, rfl, by omega, by rw [HN.out]; exact Ow.nil _ _ _, hb.trans (hb2.mono hb.size)⟩
  | true =>
  have HN : Hid (sesL rs es = sesK rs es n1) := Lib.hid (by rw [sesL, sesC_ok hv ht, HM.out]; rfl)
  rw [sesC_ok hv ht]
  have HV := Lib.hid hv
  have HT := Lib.hid ht
  clear hv ht
  go_enter Try.func26, Try.ntmps26
  go_wp2_with fail
  refine (l22Ok_any rs a0 n0 c0 _ hn0 HL.out HO.out hr0).mono ?_
  rintro e w1 ⟨rfl, hb⟩
  rw [HV.out]
  go_wp2_with fail
  refine (l06Ok_any es a1 n1 c1 _ hn1 HM.out HP.out (hr1.below hb)).mono ?_
  rintro e w2 ⟨rfl, hb2⟩
  rw [HT.out]
  have hbW := hb.trans (hb2.mono hb.size)
  have hrA := hr0.below hbW
  have hrB := hr1.below hbW
  have HBW := Lib.hid hbW
  clear hr0 hr1 hb hb2 hbW
  have hb0 := below_built w2 53
  have hoB := Ow.built Req.enc 6 w2 53
  have hr' := hrA.below hb0
  have hsz : w2.heap.size ≤ (w2.alloc (.cells #[] 53)).heap.size := hb0.size
  have hm0 : 0 + n0 ≤ maxLen := by unfold maxLen; omega
  have hm1 : (0 + n0) * 56 ≤ 140737488355328 := by omega
  have hy : Hid ([] ++ rs = rs) := Lib.hid rfl
  go_wp2_with (at_builtin; refine wpl_apps Req.len (by decide) Req.one _ rfl (.tmp 16) (.tmp 17) 24 rfl 53 _ 56 rfl Try.underlying24 copyInfo53 w2.heap.size _ 0 _ rfl hoB rs n0 HL.out _ c0 rfl hr' hm0 hm1 hsz rs hy ?_)
  intro a' c' w3 ho3 hb4
  have hbS := hb0.trans hb4
  have HBS := Lib.hid hbS
  clear hrA hr' hoB hb0 hb4 hsz hm0 hm1 hy hbS
  go_wp2_with fail
  go_loopw [7] (fun i wr => ∃ k : Nat, k ≤ n1 ∧ i = .int .i64 k ∧ Ow Req.enc 6 wr w2.heap.size 53 (.slice a' n0 c') n0 (sesK rs es k) ∧ Below w2.heap.size w2 wr) (fun i _ => n1 - (intOf i).toNat)
  case atStart => exact ⟨0, Nat.zero_le _, rfl, ho3, HBS.out⟩
  case round =>
    obtain ⟨k, hk, rfl, hoA, hb6⟩ := hrel
    clear ho3
    by_cases hlt : k < n1
    · obtain ⟨x, hx, htk⟩ := take_snoc' es k (by rw [HM.out]; omega)
      have HS := Lib.hid (sesK_step (rs := rs) htk)
      have HLn : Hid ((sesK rs es k).length = n0) := Lib.hid (by rw [sesK_len]; exact HL.out)
      have HOk := Lib.hid (sesK_ok (es := es) (k := k) HO.out)
      obtain ⟨b, o, rfl, hbl, hc⟩ := (hrB.below hb6) k x hx
      have c0' := hc 0 _ rfl
      rw [Nat.add_zero] at c0'
      have c1' := hc 1 _ rfl
      clear hc htk hx hrB
      go_wp2_with fail
      go_still_tail 11, (by kernel_rfl)
      change wpList _ _ _ _ _ wr.drew
      have hoD := hoA.below (Below.refl wr.heap.size wr).drew
      have hb7 : Below w2.heap.size w2 wr.drew := hb6.drew
      clear hoA hb6 c0' c1' hbl
      generalize wr.drew = wd at *
      go_wp2_with fail
      refine (l22Serve_any (sesK rs es k) x.star x.time a' n0 c' w2.heap.size wd hn0 HLn.out HOk.out hb7.size hoD).mono ?_
      rintro e w6 ⟨rfl, hoB, hb8⟩
      rw [HS.out] at hoB
      have hb9 := hb7.trans hb8
      go_wp2_with fail
      go_roundw
      case rel => exact ⟨k + 1, by omega, by go_num, hoB, hb9⟩
      case measure => simp [intOf]; omega
    · obtain rfl : k = n1 := by omega
      rw [← HN.out] at hoA
      go_wp2_with fail
      go_ret2
      exact ⟨_, _, _, rfl, hn0, hoA.mono HBW.out.size, HBW.out.trans (hb6.mono HBW.out.size)⟩

set_option maxHeartbeats 4000000 in
theorem implSes : Calls Try.prog 28 #[.slice a0 n0 c0, .slice a1 n1 c1] w fun e w' => ∃ a' n' c', e = .returned (.tuple #[.slice a' n' c', .int .i64 (sesC rs es)]) ∧ n' ≤ 1048576 ∧ Ow Req.enc 6 w' w.heap.size 53 (.slice a' n' c') n' (sesL rs es) ∧ Below w.heap.size w w' := by
  have HL := Lib.hid hl0
  have HM := Lib.hid hl1
  have HO := Lib.hid ho
  have HP := Lib.hid ho1
  clear hl0 hl1 ho ho1
  cases hv : reqsB rs with
  | false =>
    have HN : Hid (sesL rs es = []) := Lib.hid (by rw [sesL, sesC_bad hv]; rfl)
    rw [sesC_bad hv]
    have HV := Lib.hid hv
    clear hv
    go_enter Try.func28, Try.ntmps28
    go_wp2_with fail
    refine (ValidRequests_any rs a0 n0 c0 _ hn0 HL.out HO.out hr0).mono ?_
    rintro e w1 ⟨rfl, hb⟩
    rw [HV.out]
    go_wp2_with fail
    go_ret2
    exact ⟨none, 0, 0, rfl, by omega, by rw [HN.out]; exact Ow.nil _ _ _, hb⟩
  | true =>
  cases ht : estsB es with
  | false =>
    have HN : Hid (sesL rs es = []) := Lib.hid (by rw [sesL, sesC_no hv ht]; rfl)
    rw [sesC_no hv ht]
    have HV := Lib.hid hv
    have HT := Lib.hid ht
    clear hv ht
    go_enter Try.func28, Try.ntmps28
    go_wp2_with fail
    refine (ValidRequests_any rs a0 n0 c0 _ hn0 HL.out HO.out hr0).mono ?_
    rintro e w1 ⟨rfl, hb⟩
    rw [HV.out]
    go_wp2_with fail
    refine (validEst_any es a1 n1 c1 _ hn1 HM.out HP.out (hr1.below hb)).mono ?_
    rintro e w2 ⟨rfl, hb2⟩
    rw [HT.out]
    go_wp2_with fail
    go_ret2
    exact ⟨none, 0, 0, rfl, by omega, by rw [HN.out]; exact Ow.nil _ _ _, hb.trans (hb2.mono hb.size)⟩
  | true =>
  have HN : Hid (sesL rs es = sesK rs es n1) := Lib.hid (by rw [sesL, sesC_ok hv ht, HM.out]; rfl)
  rw [sesC_ok hv ht]
  have HV := Lib.hid hv
  have HT := Lib.hid ht
  clear hv ht
  go_enter Try.func28, Try.ntmps28
  go_wp2_with fail
  refine (ValidRequests_any rs a0 n0 c0 _ hn0 HL.out HO.out hr0).mono ?_
  rintro e w1 ⟨rfl, hb⟩
  rw [HV.out]
  go_wp2_with fail
  refine (validEst_any es a1 n1 c1 _ hn1 HM.out HP.out (hr1.below hb)).mono ?_
  rintro e w2 ⟨rfl, hb2⟩
  rw [HT.out]
  have hbW := hb.trans (hb2.mono hb.size)
  have hrA := hr0.below hbW
  have hrB := hr1.below hbW
  have HBW := Lib.hid hbW
  clear hr0 hr1 hb hb2 hbW
  go_wp2_with fail
  refine (copyOfReq_any rs a0 n0 c0 _ hn0 HL.out hrA).mono ?_
  rintro e w3 ⟨a', c', rfl, ho3, hb4⟩
  have HBS := Lib.hid hb4
  clear hb4 hrA
  go_wp2_with fail
  go_loopw [21] (fun i wr => ∃ k : Nat, k ≤ n1 ∧ i = .int .i64 k ∧ Ow Req.enc 6 wr w2.heap.size 53 (.slice a' n0 c') n0 (sesK rs es k) ∧ Below w2.heap.size w2 wr) (fun i _ => n1 - (intOf i).toNat)
  case atStart => exact ⟨0, Nat.zero_le _, rfl, ho3, HBS.out⟩
  case round =>
    obtain ⟨k, hk, rfl, hoA, hb6⟩ := hrel
    clear ho3
    by_cases hlt : k < n1
    · obtain ⟨x, hx, htk⟩ := take_snoc' es k (by rw [HM.out]; omega)
      have HS := Lib.hid (sesK_step (rs := rs) htk)
      have HLn : Hid ((sesK rs es k).length = n0) := Lib.hid (by rw [sesK_len]; exact HL.out)
      have HOk := Lib.hid (sesK_ok (es := es) (k := k) HO.out)
      obtain ⟨b, o, rfl, hbl, hc⟩ := (hrB.below hb6) k x hx
      have c0' := hc 0 _ rfl
      rw [Nat.add_zero] at c0'
      have c1' := hc 1 _ rfl
      have c2' := hc 2 _ rfl
      have c3' := hc 3 _ rfl
      have c4' := hc 4 _ rfl
      have hba : Below wr.heap.size wr (wr.alloc (.cells #[.int .i64 x.time, .string x.star, .string x.obs, .int .i64 x.mag, .bool x.fnt] 75)) := (Below.refl _ _).alloc (Nat.le_refl _) _
      have hoD := hoA.below hba
      have hb7 := hb6.trans (hba.mono hb6.size)
      have hn' := fun j => cell_of_row (wr.alloc (.cells #[.int .i64 x.time, .string x.star, .string x.obs, .int .i64 x.mag, .bool x.fnt] 75)) wr.heap.size j _ 75 (0, 0) (heap_alloc_new wr _)
      have n0' : (wr.alloc (.cells #[.int .i64 x.time, .string x.star, .string x.obs, .int .i64 x.mag, .bool x.fnt] 75)).cell? ⟨wr.heap.size, 0, none⟩ = some (.int .i64 x.time) := (hn' 0).trans rfl
      have n1' : (wr.alloc (.cells #[.int .i64 x.time, .string x.star, .string x.obs, .int .i64 x.mag, .bool x.fnt] 75)).cell? ⟨wr.heap.size, 1, none⟩ = some (.string x.star) := (hn' 1).trans rfl
      have HOD := Lib.hid hoD
      have HB7 := Lib.hid hb7
      clear hc htk hx hrB hn' hoA hb6 hba hoD hb7
      go_wp2_with fail
      refine (serve_any (sesK rs es k) x.star x.time a' n0 c' w2.heap.size _ hn0 HLn.out HOk.out HB7.out.size HOD.out).mono ?_
      have hb7 := HB7.out
      clear n0' n1' c0' c1' c2' c3' c4' hbl
      rintro e w6 ⟨rfl, hoB, hb8⟩
      rw [HS.out] at hoB
      have hb9 := hb7.trans hb8
      go_wp2_with fail
      go_roundw
      case rel => exact ⟨k + 1, by omega, by go_num, hoB, hb9⟩
      case measure => simp [intOf]; omega
    · obtain rfl : k = n1 := by omega
      rw [← HN.out] at hoA
      go_wp2_with fail
      go_ret2
      exact ⟨_, _, _, rfl, hn0, hoA.mono HBW.out.size, HBW.out.trans (hb6.mono HBW.out.size)⟩
end
end Go.Proofs.Ytababgnlogfphaa
