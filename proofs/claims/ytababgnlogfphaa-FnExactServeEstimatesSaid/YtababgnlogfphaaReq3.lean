/-
  OpenRequests and ExpireRequests: the requests that are open, those that are still of use.
-/
import Derived.Test.YtababgnlogfphaaReq2
import Derived.Test.YtababgnlogfphaaWhere
import Derived.Deep.CutRange
import Derived.Deep.Light
namespace Go.Proofs.Ytababgnlogfphaa
open Go.RowKit
set_option maxRecDepth 100000

theorem reqOpen_any (x : Req) (t : Int) (w : World) : Calls Try.prog 42 #[.agg #[.string x.star, .int .i64 x.frm, .int .i64 x.til, .int .i64 x.want, .int .i64 x.done, .int .i64 x.prio], .int .i64 t] w fun e w' => e = .returned (.bool (opnB x t)) ∧ Below w.heap.size w w' := by
  obtain ⟨d0, d1, d2, d3, d4, d5, hb⟩ := reqNew w x
  have HB := Lib.hid hb
  clear hb
  cases hi : inB t x.frm x.til
  all_goals
    unfold opnB
    rw [hi]
    have HI := Lib.hid hi
    clear hi
    go_enter Try.func42, Try.ntmps42
    go_wp2_with fail
    refine (in_any t x.frm x.til _).mono ?_
    rintro e w1 ⟨rfl, rfl⟩
    rw [HI.out]
    go_wp2_with fail
    go_ret
    exact ⟨rfl, HB.out⟩

def opnL (rs : List Req) (t : Int) : List Int := if cdR rs t = 0 then whereL rs.length (atP rs fun x => opnB x t) else []
theorem cdR_cases (rs : List Req) (t : Int) : cdR rs t = 0 ∨ cdR rs t = 1 ∨ cdR rs t = 2 := by unfold cdR; split <;> (try split) <;> simp
section
variable (rs : List Req) (t : Int) (a : Option Addr) (n c : Nat) (w : World) (hn : n ≤ 1048576) (hl : rs.length = n) (ho : ∀ v ∈ rs, Req.Ok v) (hr : Rd Req.enc 6 w a rs)
include hn hl ho hr

set_option maxHeartbeats 2000000 in
theorem specOpen : Calls Try.prog 15 #[.slice a n c, .int .i64 t] w fun e w' => ∃ a' n' c', e = .returned (.tuple #[.slice a' n' c', .int .i64 (cdR rs t)]) ∧ n' ≤ 1048576 ∧ Ow eI 1 w' w.heap.size 2 (.slice a' n' c') n' (opnL rs t) ∧ Below w.heap.size w w' := by
  have HL := Lib.hid hl
  have HO := Lib.hid ho
  clear hl ho
  by_cases hz : cdR rs t = 0
  case neg =>
    have d0 : (cdR rs t != 0) = true := by rw [bne_iff_ne]; exact hz
    have HZ : Hid (opnL rs t = []) := Lib.hid (if_neg hz)
    clear hz
    go_enter Try.func15, Try.ntmps15
    go_wp2_with fail
    refine (l22Code_any rs t a n c _ hn HL.out HO.out hr).mono ?_
    rintro e w1 ⟨rfl, hb⟩
    go_wp2_with fail
    go_ret2
    exact ⟨none, 0, 0, rfl, by omega, by rw [HZ.out]; exact Ow.nil _ _ _, hb⟩
  unfold opnL
  rw [if_pos hz, hz]
  have HZ := Lib.hid hz
  clear hz
  go_enter Try.func15, Try.ntmps15
  go_wp2_with fail
  refine (l22Code_any rs t a n c _ hn HL.out HO.out hr).mono ?_
  rintro e w1 ⟨rfl, hb⟩
  rw [HZ.out]
  have hr1 := hr.below hb
  clear hr
  go_wp2_with fail
  go_loopw [7, 8] (fun o i wr => ∃ k m : Nat, ∃ a' c', k ≤ n ∧ m ≤ k ∧ i = .int .i64 k ∧ o = .slice a' m c' ∧ Ow eI 1 wr w1.heap.size 2 (.slice a' m c') m (whereL k (atP rs fun x => opnB x t)) ∧ Below w1.heap.size w1 wr) (fun _ i _ => n - (intOf i).toNat)
  case atStart => exact ⟨0, 0, _, _, Nat.zero_le _, Nat.le_refl _, rfl, rfl, Ow.built _ _ _ _, below_built _ _⟩
  case round =>
    obtain ⟨k, m, a', c', hk, hm, rfl, rfl, hown, hb1⟩ := hrel
    by_cases hlt : k < n
    · obtain ⟨x, hx, htk⟩ := take_snoc' rs k (by rw [HL.out]; omega)
      obtain ⟨b, o, rfl, hbl, hc⟩ := (hr1.below hb1) k x hx
      have HC := Lib.hid hc
      have HP : Hid (atP rs (fun x => opnB x t) k = opnB x t) := Lib.hid (atP_eq hx)
      clear hc htk hx hr1
      go_wp2_with fail
      refine (l22Open_any x t b (o + k * 6) _ (HC.out 1 _ rfl) (HC.out 2 _ rfl) (HC.out 3 _ rfl) (HC.out 4 _ rfl)).mono ?_
      rintro e w2 ⟨rfl, nq, rfl⟩
      have hownq : Ow eI 1 (wr.drewN nq) w1.heap.size 2 (.slice a' m c') m (whereL k (atP rs fun x => opnB x t)) := hown.below (below_drewN (Below.refl _ _) nq)
      have hb1q : Below w1.heap.size w1 (wr.drewN nq) := below_drewN hb1 nq
      clear HC hbl
      generalize wr.drewN nq = wq at *
      cases hp : opnB x t with
      | true =>
        have hY : Hid (whereL k (atP rs fun x => opnB x t) ++ [(k : Int)] = whereL (k + 1) (atP rs fun x => opnB x t)) := Lib.hid (whereL_yes (HP.out.trans hp))
        have h63 : m + 1 ≤ maxLen := by unfold maxLen; omega
        have hby : (m + 1) * 8 ≤ 140737488355328 := by omega
        clear hb1 hown hp
        go_wp2_with (at_builtin; refine wpl_app eI_len (by decide) _ rfl (.tmp 27) (.tmp 29) 31 rfl 2 (.int .i64 0) 8 rfl Try.underlying31 infoI64 w1.heap.size _ m _ rfl wq _ 2 rfl hownq (k : Int) rfl rfl (eI_one _) h63 hby hb1q.size _ hY ?_)
        intro a2 c2 w2 hown2 hb3 _
        have hb5 := hb1q.trans hb3
        go_wp2_with fail
        go_roundw
        case rel => exact ⟨k + 1, m + 1, a2, c2, by omega, by omega, by go_num, by simp, hown2, hb5⟩
        case measure => simp [intOf]; omega
      | false =>
        rw [whereL_no (show atP rs (fun x => opnB x t) k = false by rw [HP.out, hp])] at hownq
        clear hb1 hown hp
        go_wp2_with fail
        go_roundw
        case rel => exact ⟨k + 1, m, a', c', by omega, by omega, by go_num, rfl, hownq, hb1q⟩
        case measure => simp [intOf]; omega
    · obtain rfl : k = n := by omega
      rw [← HL.out] at hown
      go_wp2_with fail
      go_ret2
      exact ⟨_, _, _, rfl, by omega, hown.mono hb.size, hb.trans (hb1.mono hb.size)⟩

set_option maxHeartbeats 2000000 in
omit ho hr hn hl in
theorem OpenRequests1_any (i : Nat) (x : Req) (bt bl : Nat) (hi : i < n) (hx : rs[i]? = some x) (hr : Rd Req.enc 6 w a rs) (hbt : bt < w.heap.size) (hbl : bl < w.heap.size) (ct : w.cell? ⟨bt, 0, none⟩ = some (.int .i64 t)) (cl : w.cell? ⟨bl, 0, none⟩ = some (.slice a n c)) :
    Calls Try.prog 41 #[.int .i64 i, .pointer (some ⟨bl, 0, none⟩), .pointer (some ⟨bt, 0, none⟩)] w fun e w' => e = .returned (.bool (opnB x t)) ∧ Below w.heap.size w w' := by
  obtain ⟨b, o, rfl, hbo, hc⟩ := hr i x hx
  have c0 := cls_cell hbo (hc 0 _ rfl)
  have c1 := cls_cell hbo (hc 1 _ rfl)
  have c2 := cls_cell hbo (hc 2 _ rfl)
  have c3 := cls_cell hbo (hc 3 _ rfl)
  have c4 := cls_cell hbo (hc 4 _ rfl)
  have c5 := cls_cell hbo (hc 5 _ rfl)
  simp only [Nat.add_zero] at c0
  have ct' := cls_cell (B := w.heap.size) hbt ct
  have cl' := cls_cell (B := w.heap.size) hbl cl
  clear hc hx hr ct cl hbt hbl hbo
  go_enter Try.func41, Try.ntmps41
  go_upto_region 1 with (fail)
  refine wp_region_cls w (B := w.heap.size) (by kernel_rfl) (by kernel_rfl) (Below.refl _ _) ?_
  repeat (go_big_quiet_step ((first | (go_at_call 42; exact cls_call (Nat.le_refl _) (reqOpen_any x t _)))))
  refine wpQuiet_nil ?_
  intro _ hw'
  obtain ⟨uq, hw''⟩ := hw'
  subst hw''
  have hb3 := uq.ok
  generalize uq.w = w3 at hb3
  clear c0 c1 c2 c3 c4 c5 ct' cl'
  go_wp2_with fail
  go_ret
  exact ⟨rfl, hb3⟩

set_option maxHeartbeats 2000000 in
theorem implOpen : Calls Try.prog 16 #[.slice a n c, .int .i64 t] w fun e w' => ∃ a' n' c', e = .returned (.tuple #[.slice a' n' c', .int .i64 (cdR rs t)]) ∧ n' ≤ 1048576 ∧ Ow eI 1 w' w.heap.size 2 (.slice a' n' c') n' (opnL rs t) ∧ Below w.heap.size w w' := by
  have HL := Lib.hid hl
  have HO := Lib.hid ho
  clear hl ho
  obtain ⟨cl, ct, hb0, hs0⟩ := box2 w (.slice a n c) (.int .i64 t) 24 2
  have hr0 := hr.below hb0
  clear hr
  by_cases hz : cdR rs t = 0
  case neg =>
    have d0 : (cdR rs t != 0) = true := by rw [bne_iff_ne]; exact hz
    have HZ : Hid (opnL rs t = []) := Lib.hid (if_neg hz)
    clear hz
    go_enter Try.func16, Try.ntmps16
    go_upto_region 1 with (fail)
    generalize (w.alloc (.cells #[.slice a n c] 24)).alloc (.cells #[.int .i64 t] 2) = w0 at *
    have HS := Lib.hid hs0
    have HB0 := Lib.hid hb0
    clear hs0 hb0
    go_wp2_with fail
    refine (timed_any rs t a n c _ hn HL.out HO.out hr0).mono ?_
    rintro e w1 ⟨rfl, hb⟩
    clear cl ct
    go_wp2_with fail
    go_ret2
    exact ⟨none, 0, 0, rfl, by omega, by rw [HZ.out]; exact Ow.nil _ _ _, HB0.out.trans (hb.mono (by rw [HS.out]; omega))⟩
  unfold opnL
  rw [if_pos hz, hz]
  have HZ := Lib.hid hz
  clear hz
  go_enter Try.func16, Try.ntmps16
  go_upto_region 1 with (fail)
  generalize (w.alloc (.cells #[.slice a n c] 24)).alloc (.cells #[.int .i64 t] 2) = w0 at *
  have HS := Lib.hid hs0
  have HB0 := Lib.hid hb0
  clear hs0 hb0
  go_wp2_with fail
  refine (timed_any rs t a n c _ hn HL.out HO.out hr0).mono ?_
  rintro e w1 ⟨rfl, hb⟩
  rw [HZ.out]
  have cl1 := (hb.cell (p := ⟨w.heap.size, 0, none⟩) (by show w.heap.size < _; rw [HS.out]; omega)).trans cl
  have ct1 := (hb.cell (p := ⟨w.heap.size + 1, 0, none⟩) (by show w.heap.size + 1 < _; rw [HS.out]; omega)).trans ct
  have HC := Lib.hid ct1
  have HM := Lib.hid cl1
  have hr1 := hr0.below hb
  clear cl ct
  have HBs := Lib.hid hb.size
  go_wp2_with fail
  refine (indicesWhere_any n (atP rs fun x => opnB x t) _ _ _ hn ?c1 ?c2).mono ?_
  case c1 => intro args wx; kernel_rfl
  case c2 =>
    intro i w' hi hb'
    obtain ⟨x, hx, _⟩ := take_snoc' rs i (by rw [HL.out]; omega)
    rw [show atP rs (fun x => opnB x t) i = opnB x t from atP_eq hx]
    have h1 : w.heap.size + 1 < w1.heap.size := by have := HBs.out; rw [HS.out] at this; omega
    have h0 : w.heap.size < w1.heap.size := by omega
    exact OpenRequests1_any rs t a n c w' i x _ _ hi hx (hr1.below hb') (Nat.lt_of_lt_of_le h1 hb'.size) (Nat.lt_of_lt_of_le h0 hb'.size) ((hb'.cell (p := ⟨w.heap.size + 1, 0, none⟩) h1).trans HC.out) ((hb'.cell (p := ⟨w.heap.size, 0, none⟩) h0).trans HM.out)
  rintro e w2 ⟨a', n', c', rfl, hn', hown, hb2⟩
  clear cl1 ct1
  go_wp2_with fail
  go_ret2
  have hbs : w.heap.size ≤ w1.heap.size := by have := HBs.out; rw [HS.out] at this; omega
  rw [← HL.out] at hown
  exact ⟨a', n', c', rfl, by omega, hown.mono hbs, HB0.out.trans ((hb.trans (hb2.mono hb.size)).mono (by rw [HS.out]; omega))⟩

/-! the requests that are still of use -/
omit hn hl ho hr in
theorem infoReq : (Try.prog.info? 53).map (fun i => (i.zero, i.size, i.bytes)) = some (some (.agg #[.string ByteArray.empty, .int .i64 0, .int .i64 0, .int .i64 0, .int .i64 0, .int .i64 0]), 6, 56) := by kernel_rfl
def useB (t : Int) (x : Req) : Bool := decide (t ≤ x.til) && decide (x.done < x.want)
def expL (rs : List Req) (t : Int) : List Req := if cdR rs t = 0 then rs.filter (useB t) else []

set_option maxHeartbeats 4000000 in
theorem specExpire : Calls Try.prog 9 #[.slice a n c, .int .i64 t] w fun e w' => ∃ a' n' c', e = .returned (.tuple #[.slice a' n' c', .int .i64 (cdR rs t)]) ∧ n' ≤ 1048576 ∧ Ow Req.enc 6 w' w.heap.size 53 (.slice a' n' c') n' (expL rs t) ∧ Below w.heap.size w w' := by
  have HL := Lib.hid hl
  have HO := Lib.hid ho
  clear hl ho
  by_cases hz : cdR rs t = 0
  case neg =>
    have d0 : (cdR rs t != 0) = true := by rw [bne_iff_ne]; exact hz
    have HZ : Hid (expL rs t = []) := Lib.hid (if_neg hz)
    clear hz
    go_enter Try.func9, Try.ntmps9
    go_wp2_with fail
    refine (l22Code_any rs t a n c _ hn HL.out HO.out hr).mono ?_
    rintro e w1 ⟨rfl, hb⟩
    go_wp2_with fail
    go_ret2
    exact ⟨none, 0, 0, rfl, by omega, by rw [HZ.out]; exact Ow.nil _ _ _, hb⟩
  unfold expL
  rw [if_pos hz, hz]
  have HZ := Lib.hid hz
  clear hz
  go_enter Try.func9, Try.ntmps9
  go_wp2_with fail
  refine (l22Code_any rs t a n c _ hn HL.out HO.out hr).mono ?_
  rintro e w1 ⟨rfl, hb⟩
  rw [HZ.out]
  have hr1 := hr.below hb
  clear hr
  go_wp2_with fail
  go_loopw [7, 8] (fun o i wr => ∃ k m : Nat, ∃ a' c', k ≤ n ∧ m ≤ k ∧ i = .int .i64 k ∧ o = .slice a' m c' ∧ Ow Req.enc 6 wr w1.heap.size 53 (.slice a' m c') m ((rs.take k).filter (useB t)) ∧ Below w1.heap.size w1 wr) (fun _ i _ => n - (intOf i).toNat)
  case atStart => exact ⟨0, 0, _, _, Nat.zero_le _, Nat.le_refl _, rfl, rfl, Ow.built _ _ _ _, below_built _ _⟩
  case round =>
    obtain ⟨k, m, a', c', hk, hm, rfl, rfl, hown, hb1⟩ := hrel
    by_cases hlt : k < n
    · obtain ⟨x, hx, htk⟩ := take_snoc' rs k (by rw [HL.out]; omega)
      obtain ⟨b, o, rfl, hbl, hc⟩ := (hr1.below hb1) k x hx
      have c2 := hc 2 _ rfl
      have c3 := hc 3 _ rfl
      have c4 := hc 4 _ rfl
      have HC := Lib.hid hc
      have HT := Lib.hid htk
      have HU : Hid (useB t x = (decide (t ≤ x.til) && decide (x.done < x.want))) := Lib.hid rfl
      clear hc htk hx hr1
      cases h1 : decide (t ≤ x.til) with
      | false =>
        cases h2 : decide (x.done < x.want) with
        | false =>
          go_wp2_with fail
          go_quiet (fail)
          have hownq : Ow Req.enc 6 (wr.drewN nq) w1.heap.size 53 (.slice a' m c') m ((rs.take k).filter (useB t)) := hown.below (below_drewN (Below.refl _ _) nq)
          have hb1q : Below w1.heap.size w1 (wr.drewN nq) := below_drewN hb1 nq
          have hc' : ∀ (j : Nat) (u : Value), x.enc[j]? = some u → (wr.drewN nq).cell? ⟨b, o + k * 6 + j, none⟩ = some u := fun j u hu => (below_drewN (Below.refl wr.heap.size wr) nq).cell (p := ⟨b, o + k * 6 + j, none⟩) hbl |>.trans (HC.out j u hu)
          rw [h1, h2] at HU
          clear hb1 hown c2 c3 c4 h1 h2
          generalize wr.drewN nq = wq at *
          rw [filter_snoc_no HT.out (by simpa using HU.out)] at hownq
          clear hc'
          go_wp2_with fail
          go_roundw
          case rel => exact ⟨k + 1, m, a', c', by omega, by omega, by go_num, rfl, hownq, hb1q⟩
          case measure => simp [intOf]; omega
        | true =>
          go_wp2_with fail
          go_quiet (fail)
          have hownq : Ow Req.enc 6 (wr.drewN nq) w1.heap.size 53 (.slice a' m c') m ((rs.take k).filter (useB t)) := hown.below (below_drewN (Below.refl _ _) nq)
          have hb1q : Below w1.heap.size w1 (wr.drewN nq) := below_drewN hb1 nq
          have hc' : ∀ (j : Nat) (u : Value), x.enc[j]? = some u → (wr.drewN nq).cell? ⟨b, o + k * 6 + j, none⟩ = some u := fun j u hu => (below_drewN (Below.refl wr.heap.size wr) nq).cell (p := ⟨b, o + k * 6 + j, none⟩) hbl |>.trans (HC.out j u hu)
          rw [h1, h2] at HU
          clear hb1 hown c2 c3 c4 h1 h2
          generalize wr.drewN nq = wq at *
          rw [filter_snoc_no HT.out (by simpa using HU.out)] at hownq
          clear hc'
          go_wp2_with fail
          go_roundw
          case rel => exact ⟨k + 1, m, a', c', by omega, by omega, by go_num, rfl, hownq, hb1q⟩
          case measure => simp [intOf]; omega
      | true =>
        cases h2 : decide (x.done < x.want) with
        | false =>
          go_wp2_with fail
          go_quiet (fail)
          have hownq : Ow Req.enc 6 (wr.drewN nq) w1.heap.size 53 (.slice a' m c') m ((rs.take k).filter (useB t)) := hown.below (below_drewN (Below.refl _ _) nq)
          have hb1q : Below w1.heap.size w1 (wr.drewN nq) := below_drewN hb1 nq
          have hc' : ∀ (j : Nat) (u : Value), x.enc[j]? = some u → (wr.drewN nq).cell? ⟨b, o + k * 6 + j, none⟩ = some u := fun j u hu => (below_drewN (Below.refl wr.heap.size wr) nq).cell (p := ⟨b, o + k * 6 + j, none⟩) hbl |>.trans (HC.out j u hu)
          rw [h1, h2] at HU
          clear hb1 hown c2 c3 c4 h1 h2
          generalize wr.drewN nq = wq at *
          rw [filter_snoc_no HT.out (by simpa using HU.out)] at hownq
          clear hc'
          go_wp2_with fail
          go_roundw
          case rel => exact ⟨k + 1, m, a', c', by omega, by omega, by go_num, rfl, hownq, hb1q⟩
          case measure => simp [intOf]; omega
        | true =>
          go_wp2_with fail
          go_quiet (fail)
          have hownq : Ow Req.enc 6 (wr.drewN nq) w1.heap.size 53 (.slice a' m c') m ((rs.take k).filter (useB t)) := hown.below (below_drewN (Below.refl _ _) nq)
          have hb1q : Below w1.heap.size w1 (wr.drewN nq) := below_drewN hb1 nq
          have hc' : ∀ (j : Nat) (u : Value), x.enc[j]? = some u → (wr.drewN nq).cell? ⟨b, o + k * 6 + j, none⟩ = some u := fun j u hu => (below_drewN (Below.refl wr.heap.size wr) nq).cell (p := ⟨b, o + k * 6 + j, none⟩) hbl |>.trans (HC.out j u hu)
          rw [h1, h2] at HU
          clear hb1 hown c2 c3 c4 h1 h2
          generalize wr.drewN nq = wq at *
          have hY : Hid ((rs.take k).filter (useB t) ++ [x] = (rs.take (k + 1)).filter (useB t)) := Lib.hid (filter_snoc_yes HT.out HU.out)
          have c0 := hc' 0 _ rfl
          rw [Nat.add_zero] at c0
          have c1 := hc' 1 _ rfl
          have c2 := hc' 2 _ rfl
          have c3 := hc' 3 _ rfl
          have c4 := hc' 4 _ rfl
          have c5 := hc' 5 _ rfl
          have h63 : m + 1 ≤ maxLen := by unfold maxLen; omega
          have hby : (m + 1) * 56 ≤ 140737488355328 := by omega
          clear hc'
          go_wp2_with (at_builtin; refine wpl_app Req.len (by decide) _ rfl (.tmp 42) (.tmp 47) 24 rfl 53 _ 56 rfl Try.underlying24 infoReq w1.heap.size _ m _ rfl wq _ 53 rfl hownq x rfl rfl (Req.one _) h63 hby hb1q.size _ hY ?_)
          intro a2 c2 w2 hown2 hb3 _
          have hb5 := hb1q.trans hb3
          go_wp2_with fail
          go_roundw
          case rel => exact ⟨k + 1, m + 1, a2, c2, by omega, by omega, by go_num, by simp, hown2, hb5⟩
          case measure => simp [intOf]; omega
    · obtain rfl : k = n := by omega
      rw [List.take_of_length_le (by rw [HL.out]; omega)] at hown
      go_wp2_with fail
      go_ret2
      exact ⟨_, _, _, rfl, by omega, hown.mono hb.size, hb.trans (hb1.mono hb.size)⟩

omit hn hl ho hr in
theorem ExpireRequests1_any (x : Req) (bt : Nat) (ct : w.cell? ⟨bt, 0, none⟩ = some (.int .i64 t)) :
    Calls Try.prog 36 #[.agg #[.string x.star, .int .i64 x.frm, .int .i64 x.til, .int .i64 x.want, .int .i64 x.done, .int .i64 x.prio], .pointer (some ⟨bt, 0, none⟩)] w fun e w' => e = .returned (.bool (useB t x)) ∧ Below w.heap.size w w' := by
  have hbt : bt < w.heap.size := by
    rcases Nat.lt_or_ge bt w.heap.size with h | h
    · exact h
    · simp [World.cell?, Array.getElem?_eq_none h] at ct
  obtain ⟨d0, d1, d2, d3, d4, d5, hb⟩ := reqNew w x
  have ct1 := (hb.cell (p := ⟨bt, 0, none⟩) hbt).trans ct
  have HB := Lib.hid hb
  clear hb ct
  unfold useB
  cases h1 : decide (t ≤ x.til) <;> (go_enter Try.func36, Try.ntmps36; go_wp2_with fail; go_ret; exact ⟨rfl, HB.out⟩)

set_option maxHeartbeats 2000000 in
theorem implExpire : Calls Try.prog 11 #[.slice a n c, .int .i64 t] w fun e w' => ∃ a' n' c', e = .returned (.tuple #[.slice a' n' c', .int .i64 (cdR rs t)]) ∧ n' ≤ 1048576 ∧ Ow Req.enc 6 w' w.heap.size 53 (.slice a' n' c') n' (expL rs t) ∧ Below w.heap.size w w' := by
  have HL := Lib.hid hl
  have HO := Lib.hid ho
  clear hl ho
  obtain ⟨ct, hb0, hs0⟩ := box1 w (.int .i64 t) 2
  have hr0 := hr.below hb0
  clear hr
  by_cases hz : cdR rs t = 0
  case neg =>
    have d0 : (cdR rs t != 0) = true := by rw [bne_iff_ne]; exact hz
    have HZ : Hid (expL rs t = []) := Lib.hid (if_neg hz)
    clear hz
    go_enter Try.func11, Try.ntmps11
    go_upto_region 1 with (fail)
    generalize w.alloc (.cells #[.int .i64 t] 2) = w0 at *
    have HS := Lib.hid hs0
    have HB0 := Lib.hid hb0
    clear hs0 hb0
    go_wp2_with fail
    refine (timed_any rs t a n c _ hn HL.out HO.out hr0).mono ?_
    rintro e w1 ⟨rfl, hb⟩
    clear ct
    go_wp2_with fail
    go_ret2
    exact ⟨none, 0, 0, rfl, by omega, by rw [HZ.out]; exact Ow.nil _ _ _, HB0.out.trans (hb.mono (by rw [HS.out]; omega))⟩
  unfold expL
  rw [if_pos hz, hz]
  have HZ := Lib.hid hz
  clear hz
  go_enter Try.func11, Try.ntmps11
  go_upto_region 1 with (fail)
  generalize w.alloc (.cells #[.int .i64 t] 2) = w0 at *
  have HS := Lib.hid hs0
  have HB0 := Lib.hid hb0
  clear hs0 hb0
  go_wp2_with fail
  refine (timed_any rs t a n c _ hn HL.out HO.out hr0).mono ?_
  rintro e w1 ⟨rfl, hb⟩
  rw [HZ.out]
  have ct1 := (hb.cell (p := ⟨w.heap.size, 0, none⟩) (by show w.heap.size < _; rw [HS.out]; omega)).trans ct
  have HC := Lib.hid ct1
  have hr1 := hr0.below hb
  clear ct ct1
  have HBs := Lib.hid hb.size
  go_wp2_with fail
  refine (chosenReq_any rs (useB t) _ _ a n c _ hn HL.out hr1 ?c1 ?c2).mono ?_
  case c1 => intro args wx; kernel_rfl
  case c2 =>
    intro i x w' hx hb'
    have h0 : w.heap.size < w1.heap.size := by have := HBs.out; rw [HS.out] at this; omega
    exact ExpireRequests1_any t w' x _ ((hb'.cell (p := ⟨w.heap.size, 0, none⟩) h0).trans HC.out)
  rintro e w2 ⟨a', n', c', rfl, hn', hown, hb2⟩
  go_wp2_with fail
  go_ret2
  have hbs : w.heap.size ≤ w1.heap.size := by have := HBs.out; rw [HS.out] at this; omega
  exact ⟨a', n', c', rfl, by omega, hown.mono hbs, HB0.out.trans ((hb.trans (hb2.mono hb.size)).mono (by rw [HS.out]; omega))⟩
end
end Go.Proofs.Ytababgnlogfphaa
