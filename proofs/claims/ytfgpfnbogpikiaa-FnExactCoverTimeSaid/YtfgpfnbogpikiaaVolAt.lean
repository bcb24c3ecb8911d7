/-
  VolumesAt: the indices of the volumes with a time, in the reference and in the program.
-/
import Derived.Test.YtfgpfnbogpikiaaVol3
import Derived.Test.YtfgpfnbogpikiaaWhere
namespace Go.Proofs.Ytfgpfnbogpikiaa
open Go.RowKit
set_option maxRecDepth 100000

def atP (vs : List Vol) (f : Vol → Bool) (i : Nat) : Bool := match vs[i]? with | some x => f x | none => false
theorem atP_eq {vs : List Vol} {f : Vol → Bool} {i : Nat} {x : Vol} (h : vs[i]? = some x) : atP vs f i = f x := by simp [atP, h]

theorem l23Ok_lit (vs : List Vol) (r : Bool) (a : Option Addr) (n cap : Nat) (w : World) (hn : n ≤ 1048576) (hl : vs.length = n) (ho : ∀ v ∈ vs, Vol.Ok v) (hr : Rd Vol.enc 5 w a vs) (h : volsB vs = r) :
    Calls Try.prog 51 #[.slice a n cap] w fun e w' => e = .returned (.bool r) ∧ Below w.heap.size w w' := by
  subst h; exact l23Ok_any vs a n cap w hn hl ho hr
set_option maxHeartbeats 1000000 in
theorem validV_lit (vs : List Vol) (r : Bool) (a : Option Addr) (n cap : Nat) (w : World) (hn : n ≤ 1048576) (hl : vs.length = n) (ho : ∀ v ∈ vs, Vol.Ok v) (hr : Rd Vol.enc 5 w a vs) (h : volsB vs = r) :
    Calls Try.prog 19 #[.slice a n cap] w fun e w' => e = .returned (.bool r) ∧ Below w.heap.size w w' := by
  subst h
  have HL := Lib.hid hl
  have HO := Lib.hid ho
  clear hl ho
  go_enter Try.func19, Try.ntmps19
  go_wp2_with fail
  refine (rising_any vs a n cap _ hn HL.out HO.out hr).mono ?_
  rintro e w1 ⟨rfl, hb⟩
  go_wp2_with fail
  go_ret
  exact ⟨rfl, hb⟩
theorem volsB_len {vs : List Vol} (h : volsB vs = true) : vs.length ≤ 40 := by
  unfold volsB at h
  simp at h
  exact h.1

theorem volB_cop {x : Vol} (h : volB x = true) : 0 ≤ x.cop ∧ x.cop ≤ 5 := by
  simp only [volB, Bool.and_eq_true] at h
  exact inB_iff.1 h.2.2.2.2
theorem volsB_at {vs : List Vol} {i : Nat} {x : Vol} (h : volsB vs = true) (hx : vs[i]? = some x) : volB x = true := by
  have hi := (List.getElem?_eq_some_iff.1 hx).1
  cases hv : volB x with
  | true => rfl
  | false => rw [volsB_bad hi (okV_bad hx hv)] at h; cases h

def vatOk (vs : List Vol) (t : Int) : Bool := volsB vs && inB t 0 10000000
def vatL (vs : List Vol) (t : Int) : List Int := if vatOk vs t = true then whereL vs.length (atP vs fun x => inB t x.frm x.til) else []
def vatC (vs : List Vol) (t : Int) : Int := if volsB vs = true then (if inB t 0 10000000 = true then 0 else 2) else 1

section
variable (vs : List Vol) (a : Option Addr) (n c : Nat) (t : Int) (w : World) (hn : n ≤ 1048576) (hl : vs.length = n) (ho : ∀ v ∈ vs, Vol.Ok v) (hr : Rd Vol.enc 5 w a vs)
include hn hl ho hr

set_option maxHeartbeats 2000000 in
theorem specVolumesAt : Calls Try.prog 20 #[.slice a n c, .int .i64 t] w fun e w' => ∃ a' n' c', e = .returned (.tuple #[.slice a' n' c', .int .i64 (vatC vs t)]) ∧ n' ≤ 1048576 ∧ Ow eI 1 w' w.heap.size 2 (.slice a' n' c') n' (vatL vs t) ∧ Below w.heap.size w w' := by
  have HL := Lib.hid hl
  have HO := Lib.hid ho
  clear hl ho
  cases hv : volsB vs with
  | false =>
    have HV := Lib.hid hv
    clear hv
    go_enter Try.func20, Try.ntmps20
    go_wp2_with fail
    refine (l23Ok_lit vs _ a n c _ hn HL.out HO.out hr HV.out).mono ?_
    rintro e w1 ⟨rfl, hb⟩
    go_wp2_with fail
    go_ret2
    exact ⟨none, 0, 0, by rw [vatC, HV.out]; rfl, by omega, by rw [vatL, vatOk, HV.out]; exact Ow.nil _ _ _, hb⟩
  | true =>
  have HV := Lib.hid hv
  clear hv
  cases ht : inB t 0 10000000 with
  | false =>
    have HT := Lib.hid ht
    clear ht
    go_enter Try.func20, Try.ntmps20
    go_wp2_with fail
    refine (l23Ok_lit vs _ a n c _ hn HL.out HO.out hr HV.out).mono ?_
    rintro e w1 ⟨rfl, hb⟩
    go_wp2_with fail
    refine (l03Time_lit t _ _ HT.out).mono ?_
    rintro e w2 ⟨rfl, rfl⟩
    go_wp2_with fail
    go_ret2
    exact ⟨none, 0, 0, by rw [vatC, HV.out, HT.out]; rfl, by omega, by rw [vatL, vatOk, HV.out, HT.out]; exact Ow.nil _ _ _, hb⟩
  | true =>
    have HT := Lib.hid ht
    clear ht
    go_enter Try.func20, Try.ntmps20
    go_wp2_with fail
    refine (l23Ok_lit vs _ a n c _ hn HL.out HO.out hr HV.out).mono ?_
    rintro e w1 ⟨rfl, hb⟩
    go_wp2_with fail
    refine (l03Time_lit t _ _ HT.out).mono ?_
    rintro e w2 ⟨rfl, rfl⟩
    go_wp2_with fail
    have hr1 := hr.below hb
    clear hr
    go_loopw [6, 7] (fun o i wr => ∃ k m : Nat, ∃ a' c', k ≤ n ∧ m ≤ k ∧ i = .int .i64 k ∧ o = .slice a' m c' ∧ Ow eI 1 wr w1.heap.size 2 (.slice a' m c') m (whereL k (atP vs fun x => inB t x.frm x.til)) ∧ Below w1.heap.size w1 wr) (fun _ i _ => n - (intOf i).toNat)
    case atStart => exact ⟨0, 0, _, _, Nat.zero_le _, Nat.le_refl _, rfl, rfl, Ow.built _ _ _ _, below_built _ _⟩
    case round =>
      obtain ⟨k, m, a', c', hk, hm, rfl, rfl, hown, hb1⟩ := hrel
      by_cases hlt : k < n
      · obtain ⟨x, hx, htk⟩ := take_snoc' vs k (by rw [HL.out]; omega)
        obtain ⟨b, o, rfl, hbl, hc⟩ := (hr1.below hb1) k x hx
        have c1 := hc 1 _ rfl
        have c2 := hc 2 _ rfl
        clear hc htk
        have HP : Hid (atP vs (fun x => inB t x.frm x.til) k = inB t x.frm x.til) := Lib.hid (atP_eq hx)
        clear hx hr1
        cases hp : inB t x.frm x.til with
        | true =>
          have HQ := Lib.hid hp
          clear hp
          go_wp2_with fail
          go_quiet ((go_at_call 56; exact quiet_same (l00In_lit _ _ _ _ _ HQ.out)))
          have hownq : Ow eI 1 (wr.drewN nq) w1.heap.size 2 (.slice a' m c') m (whereL k (atP vs fun x => inB t x.frm x.til)) := hown.below (below_drewN (Below.refl _ _) nq)
          have hb1q : Below w1.heap.size w1 (wr.drewN nq) := below_drewN hb1 nq
          generalize wr.drewN nq = wq at *
          have hY : Hid (whereL k (atP vs fun x => inB t x.frm x.til) ++ [(k : Int)] = whereL (k + 1) (atP vs fun x => inB t x.frm x.til)) := Lib.hid (whereL_yes (by rw [HP.out, HQ.out]))
          have h63 : m + 1 ≤ maxLen := by unfold maxLen; omega
          have hby : (m + 1) * 8 ≤ 140737488355328 := by omega
          clear hb1 hown c1 c2
          go_wp2_with (at_builtin; refine wpl_app eI_len (by decide) _ rfl (.tmp 33) (.tmp 35) 30 rfl 2 (.int .i64 0) 8 rfl Try.underlying30 infoI64 w1.heap.size _ m _ rfl wq _ 2 rfl hownq (k : Int) rfl rfl (eI_one _) h63 hby hb1q.size _ hY ?_)
          intro a2 c2 w2 hown2 hb3 _
          have hb5 := hb1q.trans hb3
          go_wp2_with fail
          go_roundw
          case rel => exact ⟨k + 1, m + 1, a2, c2, by omega, by omega, by go_num, by simp, hown2, hb5⟩
          case measure => simp [intOf]; omega
        | false =>
          have HQ := Lib.hid hp
          clear hp
          go_wp2_with fail
          go_quiet ((go_at_call 56; exact quiet_same (l00In_lit _ _ _ _ _ HQ.out)))
          have hownq : Ow eI 1 (wr.drewN nq) w1.heap.size 2 (.slice a' m c') m (whereL k (atP vs fun x => inB t x.frm x.til)) := hown.below (below_drewN (Below.refl _ _) nq)
          have hb1q : Below w1.heap.size w1 (wr.drewN nq) := below_drewN hb1 nq
          generalize wr.drewN nq = wq at *
          rw [whereL_no (show atP vs (fun x => inB t x.frm x.til) k = false by rw [HP.out, HQ.out])] at hownq
          clear hb1 hown c1 c2
          go_wp2_with fail
          go_roundw
          case rel => exact ⟨k + 1, m, a', c', by omega, by omega, by go_num, rfl, hownq, hb1q⟩
          case measure => simp [intOf]; omega
      · obtain rfl : k = n := by omega
        go_wp2_with fail
        go_ret2
        exact ⟨_, _, _, by rw [vatC, HV.out, HT.out]; rfl, by omega, by rw [vatL, vatOk, HV.out, HT.out, HL.out]; exact hown.mono hb.size, hb.trans (hb1.mono hb.size)⟩

set_option maxHeartbeats 2000000 in
omit ho hr hn hl in
theorem VolumesAt1_any (i : Nat) (x : Vol) (bt bl : Nat) (hi : i < n) (hx : vs[i]? = some x) (hr : Rd Vol.enc 5 w a vs) (ct : w.cell? ⟨bt, 0, none⟩ = some (.int .i64 t)) (cl : w.cell? ⟨bl, 0, none⟩ = some (.slice a n c)) :
    Calls Try.prog 59 #[.int .i64 i, .pointer (some ⟨bt, 0, none⟩), .pointer (some ⟨bl, 0, none⟩)] w fun e w' => e = .returned (.bool (inB t x.frm x.til)) ∧ Below w.heap.size w w' := by
  obtain ⟨b, o, rfl, hbl, hc⟩ := hr i x hx
  have c1 := hc 1 _ rfl
  have c2 := hc 2 _ rfl
  clear hc hx hr
  go_enter Try.func59, Try.ntmps59
  go_wp2_with fail
  go_quiet ((go_at_call 60; exact quiet_same (in_any _ _ _ _)))
  go_wp2_with fail
  go_ret
  exact ⟨rfl, below_drewN (Below.refl _ _) nq⟩
set_option maxHeartbeats 2000000 in
theorem implVolumesAt : Calls Try.prog 21 #[.slice a n c, .int .i64 t] w fun e w' => ∃ a' n' c', e = .returned (.tuple #[.slice a' n' c', .int .i64 (vatC vs t)]) ∧ n' ≤ 1048576 ∧ Ow eI 1 w' w.heap.size 2 (.slice a' n' c') n' (vatL vs t) ∧ Below w.heap.size w w' := by
  have HL := Lib.hid hl
  have HO := Lib.hid ho
  clear hl ho
  go_enter Try.func21, Try.ntmps21
  go_wp2_with fail
  obtain ⟨cl, ct, hb0, hs0⟩ := box2 w (.slice a n c) (.int .i64 t) 25 2
  generalize (w.alloc (.cells #[.slice a n c] 25)).alloc (.cells #[.int .i64 t] 2) = w0 at *
  have hr0 := hr.below hb0
  clear hr
  cases hv : volsB vs with
  | false =>
    have HV := Lib.hid hv
    clear hv
    refine (validV_lit vs _ a n c _ hn HL.out HO.out hr0 HV.out).mono ?_
    rintro e w1 ⟨rfl, hb⟩
    go_wp2_with fail
    go_ret2
    exact ⟨none, 0, 0, by rw [vatC, HV.out]; rfl, by omega, by rw [vatL, vatOk, HV.out]; exact Ow.nil _ _ _, hb0.trans (hb.mono (by omega))⟩
  | true =>
  have HV := Lib.hid hv
  clear hv
  refine (validV_lit vs _ a n c _ hn HL.out HO.out hr0 HV.out).mono ?_
  rintro e w1 ⟨rfl, hb⟩
  have hr1 := hr0.below hb
  have ct1 := (hb.cell (p := ⟨w.heap.size + 1, 0, none⟩) (by show w.heap.size + 1 < _; omega)).trans ct
  have cl1 := (hb.cell (p := ⟨w.heap.size, 0, none⟩) (by show w.heap.size < _; omega)).trans cl
  have hb1 := hb0.trans (hb.mono (by omega))
  have hs1 : w.heap.size + 2 ≤ w1.heap.size := by have := hb.size; omega
  have HS := Lib.hid hs0
  clear hr0 ct cl hb hs0 hb0
  cases ht : inB t 0 10000000 with
  | false =>
    have HT := Lib.hid ht
    clear ht
    go_wp2_with fail
    refine (ValidTime_lit t _ _ HT.out).mono ?_
    rintro e w2 ⟨rfl, rfl⟩
    go_wp2_with fail
    go_ret2
    exact ⟨none, 0, 0, by rw [vatC, HV.out, HT.out]; rfl, by omega, by rw [vatL, vatOk, HV.out, HT.out]; exact Ow.nil _ _ _, hb1⟩
  | true =>
    have HT := Lib.hid ht
    clear ht
    go_wp2_with fail
    refine (ValidTime_lit t _ _ HT.out).mono ?_
    rintro e w2 ⟨rfl, rfl⟩
    go_wp2_with fail
    refine (indicesWhere_any n (atP vs fun x => inB t x.frm x.til) _ _ _ hn ?c1 ?c2).mono ?_
    case c1 => intro args wx; kernel_rfl
    case c2 =>
      intro i w' hi hb'
      obtain ⟨x, hx, _⟩ := take_snoc' vs i (by rw [HL.out]; omega)
      rw [atP_eq hx]
      exact VolumesAt1_any vs a n c t w' i x _ _ hi hx (hr1.below hb') ((hb'.cell (p := ⟨w.heap.size + 1, 0, none⟩) (by show w.heap.size + 1 < _; omega)).trans ct1) ((hb'.cell (p := ⟨w.heap.size, 0, none⟩) (by show w.heap.size < _; omega)).trans cl1)
    rintro e w2 ⟨a', n', c', rfl, hn', hown, hb2⟩
    go_wp2_with fail
    go_ret2
    exact ⟨a', n', c', by rw [vatC, HV.out, HT.out]; rfl, by omega, by rw [vatL, vatOk, HV.out, HT.out, HL.out]; exact hown.mono (by omega), hb1.trans (hb2.mono (by omega))⟩
end
end Go.Proofs.Ytfgpfnbogpikiaa
