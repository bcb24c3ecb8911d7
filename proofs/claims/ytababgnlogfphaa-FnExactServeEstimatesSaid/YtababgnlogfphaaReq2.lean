/-
  Lists of requests: when one is valid; the code of requests and a time.
-/
import Derived.Test.YtababgnlogfphaaReq1
import Derived.Test.YtababgnlogfphaaFind
namespace Go.Proofs.Ytababgnlogfphaa
open Go.RowKit
set_option maxRecDepth 100000

def reqsB (rs : List Req) : Bool := decide (rs.length ≤ 30) && rs.all reqB
theorem reqsB_long {rs : List Req} (h : ¬ rs.length ≤ 30) : reqsB rs = false := by simp [reqsB, h]
theorem reqsB_bad {rs : List Req} {i : Nat} {x : Req} (hx : rs[i]? = some x) (h : reqB x = false) : reqsB rs = false := by
  rw [reqsB, all_bad hx h, Bool.and_false]
theorem reqsB_ok {rs : List Req} (h : rs.length ≤ 30) (h2 : ∀ i, i < rs.length → atP rs reqB i = true) : reqsB rs = true := by
  rw [reqsB, all_good h2]; simp [h]
theorem reqsB_len {rs : List Req} (h : reqsB rs = true) : rs.length ≤ 30 := by
  simp only [reqsB, Bool.and_eq_true, decide_eq_true_eq] at h; exact h.1
theorem reqsB_at {rs : List Req} {i : Nat} {x : Req} (h : reqsB rs = true) (hx : rs[i]? = some x) : reqB x = true := by
  cases hv : reqB x with
  | true => rfl
  | false => rw [reqsB_bad hx hv] at h; cases h
theorem okSize {s : ByteArray} (h : s.size ≤ maxLen) : s.size ≤ 9223372036854775807 := by unfold maxLen at h; omega

set_option maxHeartbeats 2000000 in
theorem l22Ok_any (rs : List Req) (a : Option Addr) (n cap : Nat) (w : World) (hn : n ≤ 1048576) (hl : rs.length = n) (ho : ∀ v ∈ rs, Req.Ok v) (hr : Rd Req.enc 6 w a rs) :
    Calls Try.prog 50 #[.slice a n cap] w fun e w' => e = .returned (.bool (reqsB rs)) ∧ Below w.heap.size w w' := by
  have HL := Lib.hid hl
  have HO := Lib.hid ho
  clear hl ho
  go_enter Try.func50, Try.ntmps50
  go_wp2_with fail
  go_loopw [3] (fun i wr => ∃ k : Nat, k ≤ n ∧ i = .int .i64 k ∧ Hid (∀ i, i < k → atP rs reqB i = true) ∧ Below w.heap.size w wr) (fun i _ => n - (intOf i).toNat)
  case atStart => exact ⟨0, Nat.zero_le _, rfl, fun i hi => absurd hi (by omega), Below.refl _ _⟩
  case round =>
    obtain ⟨k, hk, rfl, HK, hb⟩ := hrel
    by_cases hlt : k < n
    · obtain ⟨x, hx, htk⟩ := take_snoc' rs k (by rw [HL.out]; omega)
      obtain ⟨b, o, rfl, hbl, hc⟩ := hr.below hb k x hx
      have hnm := Lib.hid (okSize (HO.out x (List.mem_of_getElem? hx)).1)
      have HC := Lib.hid hc
      have HX := Lib.hid hx
      clear hc htk hr hx
      go_wp2_with fail
      refine (l22One_any x b (o + k * 6) _ hnm.out (HC.out 0 _ rfl) (HC.out 1 _ rfl) (HC.out 2 _ rfl) (HC.out 3 _ rfl) (HC.out 4 _ rfl) (HC.out 5 _ rfl)).mono ?_
      rintro e w1 ⟨rfl, nq, rfl⟩
      have hb2 : Below w.heap.size w (wr.drewN nq) := below_drewN hb nq
      generalize wr.drewN nq = wq at *
      cases hv : reqB x with
      | false =>
        have HB := Lib.hid (reqsB_bad HX.out hv)
        clear hv
        go_wp2_with fail
        go_ret
        exact ⟨by rw [HB.out]; rfl, hb2⟩
      | true =>
        have HQ := Lib.hid (all_step HK.out ((atP_eq HX.out).trans hv))
        clear hv
        go_wp2_with fail
        go_roundw
        case rel => exact ⟨k + 1, by omega, by go_num, HQ, hb2⟩
        case measure => simp [intOf]; omega
    · have hkn : k = n := by omega
      subst hkn
      by_cases h30 : k ≤ 30
      · have HF := Lib.hid (reqsB_ok (rs := rs) (by rw [HL.out]; omega) (by rw [HL.out]; exact HK.out))
        have h30' : decide ((k : Int) ≤ 30) = true := by simp; omega
        go_wp2_with fail
        go_ret
        exact ⟨by rw [HF.out]; rfl, hb⟩
      · have HF := Lib.hid (reqsB_long (rs := rs) (by rw [HL.out]; omega))
        have h30' : decide ((k : Int) ≤ 30) = false := by simp; omega
        go_wp2_with fail
        go_ret
        exact ⟨by rw [HF.out]; rfl, hb⟩

theorem ValidRequests1_any (x : Req) (w : World) (hs : x.star.size ≤ 9223372036854775807) :
    Calls Try.prog 66 #[.agg #[.string x.star, .int .i64 x.frm, .int .i64 x.til, .int .i64 x.want, .int .i64 x.done, .int .i64 x.prio]] w fun e w' => e = .returned (.bool (!reqB x)) ∧ Below w.heap.size w w' := by
  have hb : Below w.heap.size w (w.alloc (.cells #[.string x.star, .int .i64 x.frm, .int .i64 x.til, .int .i64 x.want, .int .i64 x.done, .int .i64 x.prio] 53)) := (Below.refl _ _).alloc (Nat.le_refl _) _
  have hsz := hb.size
  have HB := Lib.hid hb
  clear hb
  obtain ⟨d0, d1, d2, d3, d4, d5, _⟩ := reqNew w x
  go_enter Try.func66, Try.ntmps66
  go_wp2_with fail
  refine (isRequest_any x _ hs).mono ?_
  rintro e w1 ⟨rfl, hb1⟩
  go_wp2_with fail
  go_ret
  exact ⟨rfl, HB.out.trans (hb1.mono hsz)⟩

set_option maxHeartbeats 1000000 in
theorem ValidRequests_any (rs : List Req) (a : Option Addr) (n cap : Nat) (w : World) (hn : n ≤ 1048576) (hl : rs.length = n) (ho : ∀ v ∈ rs, Req.Ok v) (hr : Rd Req.enc 6 w a rs) :
    Calls Try.prog 45 #[.slice a n cap] w fun e w' => e = .returned (.bool (reqsB rs)) ∧ Below w.heap.size w w' := by
  have HL := Lib.hid hl
  have HO := Lib.hid ho
  clear hl ho
  by_cases h30 : n ≤ 30
  case neg =>
    have HB := Lib.hid (reqsB_long (rs := rs) (by rw [HL.out]; exact h30))
    have d0 : decide ((n : Int) ≤ 30) = false := by simp; omega
    clear h30
    go_enter Try.func45, Try.ntmps45
    go_wp2_with fail
    go_ret
    exact ⟨by rw [HB.out]; rfl, Below.refl _ _⟩
  have HB : Hid (reqsB rs = !rs.any fun x => !reqB x) := Lib.hid (by rw [any_not_all, reqsB, HL.out]; simp [h30])
  have d0 : decide ((n : Int) ≤ 30) = true := by simp; omega
  clear h30
  go_enter Try.func45, Try.ntmps45
  go_wp2_with fail
  refine (ContainsReq_any rs (fun x => !reqB x) _ _ a n cap _ hn HL.out hr ?c1 ?c2).mono ?_
  case c1 => intro args wx; kernel_rfl
  case c2 =>
    intro i x w' hx _
    exact ValidRequests1_any x w' (okSize (HO.out x (List.mem_of_getElem? hx)).1)
  rintro e w1 ⟨rfl, hb⟩
  go_wp2_with fail
  go_ret
  exact ⟨by rw [HB.out]; rfl, hb⟩

def cdR (rs : List Req) (t : Int) : Int := if reqsB rs = true then (if inB t 0 10000000 = true then 0 else 2) else 1
theorem cdR_bad {rs : List Req} {t : Int} (h : reqsB rs = false) : cdR rs t = 1 := by simp [cdR, h]
theorem cdR_no {rs : List Req} {t : Int} (h : reqsB rs = true) (h2 : inB t 0 10000000 = false) : cdR rs t = 2 := by simp [cdR, h, h2]
theorem cdR_ok {rs : List Req} {t : Int} (h : reqsB rs = true) (h2 : inB t 0 10000000 = true) : cdR rs t = 0 := by simp [cdR, h, h2]
section
variable (rs : List Req) (t : Int) (a : Option Addr) (n c : Nat) (w : World) (hn : n ≤ 1048576) (hl : rs.length = n) (ho : ∀ v ∈ rs, Req.Ok v) (hr : Rd Req.enc 6 w a rs)
include hn hl ho hr
theorem l22Code_any : Calls Try.prog 32 #[.slice a n c, .int .i64 t] w fun e w' => e = .returned (.int .i64 (cdR rs t)) ∧ Below w.heap.size w w' := by
  cases hv : reqsB rs with
  | false =>
    rw [cdR_bad hv]
    have HV := Lib.hid hv
    clear hv
    go_enter Try.func32, Try.ntmps32
    go_wp2_with fail
    refine (l22Ok_any rs a n c _ hn hl ho hr).mono ?_
    rintro e w1 ⟨rfl, hb⟩
    rw [HV.out]
    clear hl ho hr
    go_wp2_with fail
    go_ret
    exact ⟨rfl, hb⟩
  | true =>
  cases ht : inB t 0 10000000 with
  | false =>
    rw [cdR_no hv ht]
    have HV := Lib.hid hv
    clear hv
    have HT := Lib.hid ht
    clear ht
    go_enter Try.func32, Try.ntmps32
    go_wp2_with fail
    refine (l22Ok_any rs a n c _ hn hl ho hr).mono ?_
    rintro e w1 ⟨rfl, hb⟩
    rw [HV.out]
    clear hl ho hr
    go_wp2_with fail
    refine (l03Time_any t _).mono ?_
    rintro e w2 ⟨rfl, rfl⟩
    rw [HT.out]
    go_wp2_with fail
    go_ret
    exact ⟨rfl, hb⟩
  | true =>
    rw [cdR_ok hv ht]
    have HV := Lib.hid hv
    clear hv
    have HT := Lib.hid ht
    clear ht
    go_enter Try.func32, Try.ntmps32
    go_wp2_with fail
    refine (l22Ok_any rs a n c _ hn hl ho hr).mono ?_
    rintro e w1 ⟨rfl, hb⟩
    rw [HV.out]
    clear hl ho hr
    go_wp2_with fail
    refine (l03Time_any t _).mono ?_
    rintro e w2 ⟨rfl, rfl⟩
    rw [HT.out]
    go_wp2_with fail
    go_ret
    exact ⟨rfl, hb⟩
theorem timed_any : Calls Try.prog 34 #[.slice a n c, .int .i64 t] w fun e w' => e = .returned (.int .i64 (cdR rs t)) ∧ Below w.heap.size w w' := by
  cases hv : reqsB rs with
  | false =>
    rw [cdR_bad hv]
    have HV := Lib.hid hv
    clear hv
    go_enter Try.func34, Try.ntmps34
    go_wp2_with fail
    refine (ValidRequests_any rs a n c _ hn hl ho hr).mono ?_
    rintro e w1 ⟨rfl, hb⟩
    rw [HV.out]
    clear hl ho hr
    go_wp2_with fail
    go_ret
    exact ⟨rfl, hb⟩
  | true =>
  cases ht : inB t 0 10000000 with
  | false =>
    rw [cdR_no hv ht]
    have HV := Lib.hid hv
    clear hv
    have HT := Lib.hid ht
    clear ht
    go_enter Try.func34, Try.ntmps34
    go_wp2_with fail
    refine (ValidRequests_any rs a n c _ hn hl ho hr).mono ?_
    rintro e w1 ⟨rfl, hb⟩
    rw [HV.out]
    clear hl ho hr
    go_wp2_with fail
    refine (ValidTime_any t _).mono ?_
    rintro e w2 ⟨rfl, rfl⟩
    rw [HT.out]
    go_wp2_with fail
    go_ret
    exact ⟨rfl, hb⟩
  | true =>
    rw [cdR_ok hv ht]
    have HV := Lib.hid hv
    clear hv
    have HT := Lib.hid ht
    clear ht
    go_enter Try.func34, Try.ntmps34
    go_wp2_with fail
    refine (ValidRequests_any rs a n c _ hn hl ho hr).mono ?_
    rintro e w1 ⟨rfl, hb⟩
    rw [HV.out]
    clear hl ho hr
    go_wp2_with fail
    refine (ValidTime_any t _).mono ?_
    rintro e w2 ⟨rfl, rfl⟩
    rw [HT.out]
    go_wp2_with fail
    go_ret
    exact ⟨rfl, hb⟩
end
end Go.Proofs.Ytababgnlogfphaa
