/-
  ServeRequests: an estimate is counted for all open requests of its star.
-/
import Derived.Test.YtababgnlogfphaaReq3
import Derived.Test.YtababgnlogfphaaCopy
namespace Go.Proofs.Ytababgnlogfphaa
open Go.RowKit
set_option maxRecDepth 100000

/-- what is owned below a block stays where all blocks below it stay -/
theorem Ow.upto {α : Type} {enc : α → List Value} {k : Nat} {w w' : World} {base e n B : Nat} {v : Value} {xs : List α} (h : Ow enc k w base e v n xs) (hlt : ∀ b, v.ownBlock = some b → b < B) (hb : Below B w w') : Ow enc k w' base e v n xs := by
  obtain ⟨h1, h2⟩ := h
  refine ⟨h1, ?_⟩
  rcases h2 with h2 | ⟨g, cap, cur, hv, hg, hh, r⟩
  · exact Or.inl h2
  · exact Or.inr ⟨g, cap, cur, hv, hg, by rw [hb.block g (hlt g (by rw [hv]; rfl))]; exact hh, r⟩

def srv1 (s : ByteArray) (t : Int) (x : Req) : Req := if (x.star.toList == s.toList && opnB x t) = true then { x with done := x.done + 1 } else x
def srvL (s : ByteArray) (t : Int) (rs : List Req) : List Req := rs.map (srv1 s t)
def srvK (s : ByteArray) (t : Int) (rs : List Req) (k : Nat) : List Req := (rs.take k).map (srv1 s t) ++ rs.drop k
theorem srvK_zero (s : ByteArray) (t : Int) (rs : List Req) : srvK s t rs 0 = rs := by simp [srvK]
theorem srvK_all (s : ByteArray) (t : Int) (rs : List Req) (k : Nat) (h : rs.length = k) : srvK s t rs k = srvL s t rs := by subst h; simp [srvK, srvL]
theorem srvK_at {s : ByteArray} {t : Int} {rs : List Req} {k : Nat} {x : Req} (hx : rs[k]? = some x) : (srvK s t rs k)[k]? = some x := by
  obtain ⟨h, hx'⟩ := List.getElem?_eq_some_iff.1 hx
  unfold srvK
  rw [List.getElem?_append_right (by rw [List.length_map, List.length_take]; omega)]
  simp [List.length_take, Nat.min_eq_left (Nat.le_of_lt h), hx]
theorem srvK_step {s : ByteArray} {t : Int} {rs : List Req} {k : Nat} {x : Req} (hx : rs[k]? = some x) : (srvK s t rs k).set k (srv1 s t x) = srvK s t rs (k + 1) := by
  obtain ⟨h, hx'⟩ := List.getElem?_eq_some_iff.1 hx
  unfold srvK
  rw [List.set_append_right _ _ (by simp; omega)]
  rw [List.take_succ_eq_append_getElem h, hx']
  have e : rs.drop k = x :: rs.drop (k + 1) := by rw [← hx']; exact List.drop_eq_getElem_cons h
  rw [e]
  simp [Nat.min_eq_left (Nat.le_of_lt h)]
theorem srvK_keep {s : ByteArray} {t : Int} {rs : List Req} {k : Nat} {x : Req} (hx : rs[k]? = some x) (h : (x.star.toList == s.toList && opnB x t) = false) : srvK s t rs k = srvK s t rs (k + 1) := by
  rw [← srvK_step hx]
  have : srv1 s t x = x := by unfold srv1; rw [if_neg (by rw [h]; simp)]
  rw [this]
  have hx2 := srvK_at (s := s) (t := t) hx
  apply List.ext_getElem?
  intro i
  rw [List.getElem?_set]
  split
  · rename_i h1; subst h1
    rw [hx2]
    have := (List.getElem?_eq_some_iff.1 hx2).1
    simp [this]
  · rfl
theorem srv1_ok {s : ByteArray} {t : Int} {x : Req} (h : Req.Ok x) : Req.Ok (srv1 s t x) := by
  unfold srv1
  split
  · rename_i hc
    simp only [Bool.and_eq_true, opnB, decide_eq_true_eq] at hc
    obtain ⟨h0, h1, h2, h3, h4, h5⟩ := h
    refine ⟨h0, h1, h2, h3, ?_, h5⟩
    show I64 (x.done + 1)
    unfold I64 at *
    omega
  · exact h
theorem srvL_ok {s : ByteArray} {t : Int} {rs : List Req} (h : ∀ v ∈ rs, Req.Ok v) : ∀ v ∈ srvL s t rs, Req.Ok v := by
  intro v hv
  obtain ⟨x, hx, rfl⟩ := List.mem_map.1 hv
  exact srv1_ok (h x hx)
theorem srvL_len (s : ByteArray) (t : Int) (rs : List Req) : (srvL s t rs).length = rs.length := by simp [srvL]
theorem srv1_yes {s : ByteArray} {t : Int} {x : Req} (h : (x.star.toList == s.toList) = true) (h2 : opnB x t = true) : srv1 s t x = { x with done := x.done + 1 } := by unfold srv1; rw [h, h2]; rfl
theorem opn_wrap {t : Int} {x : Req} (ho : Req.Ok x) (h : opnB x t = true) : IntKind.i64.wrap (x.done + 1) = x.done + 1 := by
  simp only [Bool.and_eq_true, opnB, decide_eq_true_eq] at h
  obtain ⟨_, _, _, h3, h4, _⟩ := ho
  unfold I64 at *
  exact IntWalk.i64_in _ (by omega)

section
variable (rs : List Req) (s : ByteArray) (t : Int) (a : Option Addr) (n c base : Nat) (w : World) (hn : n ≤ 1048576) (hl : rs.length = n) (ho : ∀ v ∈ rs, Req.Ok v) (hbw : base ≤ w.heap.size) (hown : Ow Req.enc 6 w base 53 (.slice a n c) n rs)
include hn hl ho hbw hown

set_option maxHeartbeats 4000000 in
theorem l22Serve_any : Calls Try.prog 44 #[.slice a n c, .string s, .int .i64 t] w fun e w' => e = .returned (.tuple #[]) ∧ Ow Req.enc 6 w' base 53 (.slice a n c) n (srvL s t rs) ∧ Below base w w' := by
  have HL := Lib.hid hl
  have HO := Lib.hid ho
  clear hl ho
  go_enter Try.func44, Try.ntmps44
  go_wp2_with fail
  go_loopw [6] (fun i wr => ∃ k : Nat, k ≤ n ∧ i = .int .i64 k ∧ Ow Req.enc 6 wr base 53 (.slice a n c) n (srvK s t rs k) ∧ Below base w wr) (fun i _ => n - (intOf i).toNat)
  case atStart => exact ⟨0, Nat.zero_le _, rfl, by rw [srvK_zero]; exact hown, Below.refl _ _⟩
  case round =>
    obtain ⟨k, hk, rfl, hw, hb⟩ := hrel
    clear hown
    by_cases hlt : k < n
    · obtain ⟨x, hx, htk⟩ := take_snoc' rs k (by rw [HL.out]; omega)
      have hox := HO.out x (List.mem_of_getElem? hx)
      obtain ⟨g, rfl, hg1, hg2⟩ := hw.at_ (by omega)
      obtain ⟨g', o', he, _, hc⟩ := (hw.rd Req.len (by decide)) k x (srvK_at hx)
      simp only [Option.some.injEq, Addr.mk.injEq, and_true] at he
      obtain ⟨rfl, rfl⟩ := he
      simp only [Nat.zero_add] at hc
      have HC := Lib.hid hc
      have c0 := hc 0 _ rfl
      rw [Nat.add_zero] at c0
      have HX := Lib.hid hx
      have HOx := Lib.hid hox
      clear hc htk hx hox
      cases h1 : (x.star.toList == s.toList) with
      | false =>
        have HK := Lib.hid (srvK_keep (s := s) (t := t) HX.out (by rw [h1]; rfl))
        rw [HK.out] at hw
        go_wp2_with fail
        go_roundw
        case rel => exact ⟨k + 1, by omega, by go_num, hw, hb⟩
        case measure => simp [intOf]; omega
      | true =>
        go_wp2_with fail
        refine (l22Open_any x t g (k * 6) _ (HC.out 1 _ rfl) (HC.out 2 _ rfl) (HC.out 3 _ rfl) (HC.out 4 _ rfl)).mono ?_
        rintro e w2 ⟨rfl, nq, rfl⟩
        have hwq : Ow Req.enc 6 (wr.drewN nq) base 53 (.slice (some ⟨g, 0, none⟩) n c) n (srvK s t rs k) := hw.below (below_drewN (Below.refl _ _) nq)
        have hbq : Below base w (wr.drewN nq) := below_drewN hb nq
        have e4 : (wr.drewN nq).cell? ⟨g, k * 6 + 4, none⟩ = some (.int .i64 x.done) := ((below_drewN (Below.refl wr.heap.size wr) nq).cell (p := ⟨g, k * 6 + 4, none⟩) hg2).trans (HC.out 4 _ rfl)
        clear hw hb c0 HC
        generalize wr.drewN nq = wq at *
        cases h2 : opnB x t with
        | false =>
          have HK := Lib.hid (srvK_keep (s := s) (t := t) HX.out (by rw [h1, h2]; rfl))
          rw [HK.out] at hwq
          clear h2
          go_wp2_with fail
          go_roundw
          case rel => exact ⟨k + 1, by omega, by go_num, hwq, hbq⟩
          case measure => simp [intOf]; omega
        | true =>
          have i0 := opn_wrap HOx.out h2
          have HK : Hid ((srvK s t rs k).set k { x with done := x.done + 1 } = srvK s t rs (k + 1)) := Lib.hid (by rw [← srv1_yes h1 h2]; exact srvK_step HX.out)
          have HA := Lib.hid (srvK_at (s := s) (t := t) HX.out)
          have hs2 : base ≤ wq.heap.size := Nat.le_trans hbw hbq.size
          clear h1 h2 HX HOx
          obtain ⟨f0, f1, f2, f3, f4, f5⟩ := x
          simp only at i0 e4 HK HA
          have he0 : Hid ((Req.enc ⟨f0, f1, f2, f3, f4, f5⟩).set 4 (.int .i64 (f4 + 1)) = Req.enc ⟨f0, f1, f2, f3, f4 + 1, f5⟩) := Lib.hid rfl
          go_wp2_with (with_reducible refine wpl_setf Req.len (by decide) _ rfl 2 (.tmp 34) (.tmp 32) rfl g (k * 6 + 4) rfl (.int .i64 (f4 + 1)) rfl (cells_i _) (one_i _) ?s1 base 53 n c k 4 _ hwq ⟨f0, f1, f2, f3, f4, f5⟩ ⟨f0, f1, f2, f3, f4 + 1, f5⟩ HA (by decide) he0 rfl base hg1 hs2 _ HK ?_)
          case s1 => kernel_rfl
          intro w4 ho5 hb5 _
          have hb6 := hbq.trans hb5
          clear e4 i0
          go_wp2_with fail
          go_roundw
          case rel => exact ⟨k + 1, by omega, by go_num, ho5, hb6⟩
          case measure => simp [intOf]; omega
    · obtain rfl : k = n := by omega
      rw [srvK_all _ _ _ _ HL.out] at hw
      go_wp2_with fail
      go_end0
      exact ⟨rfl, hw, hb⟩

set_option maxHeartbeats 4000000 in
theorem serve_any : Calls Try.prog 49 #[.slice a n c, .string s, .int .i64 t] w fun e w' => e = .returned (.tuple #[]) ∧ Ow Req.enc 6 w' base 53 (.slice a n c) n (srvL s t rs) ∧ Below base w w' := by
  have HL := Lib.hid hl
  have HO := Lib.hid ho
  clear hl ho
  go_enter Try.func49, Try.ntmps49
  go_wp2_with fail
  go_loopw [10] (fun i wr => ∃ k : Nat, k ≤ n ∧ i = .int .i64 k ∧ Ow Req.enc 6 wr base 53 (.slice a n c) n (srvK s t rs k) ∧ Below base w wr) (fun i _ => n - (intOf i).toNat)
  case atStart => exact ⟨0, Nat.zero_le _, rfl, by rw [srvK_zero]; exact hown, Below.refl _ _⟩
  case round =>
    obtain ⟨k, hk, rfl, hw, hb⟩ := hrel
    clear hown
    by_cases hlt : k < n
    · obtain ⟨x, hx, htk⟩ := take_snoc' rs k (by rw [HL.out]; omega)
      have hox := HO.out x (List.mem_of_getElem? hx)
      obtain ⟨g, rfl, hg1, hg2⟩ := hw.at_ (by omega)
      obtain ⟨g', o', he, _, hc⟩ := (hw.rd Req.len (by decide)) k x (srvK_at hx)
      simp only [Option.some.injEq, Addr.mk.injEq, and_true] at he
      obtain ⟨rfl, rfl⟩ := he
      simp only [Nat.zero_add] at hc
      obtain ⟨d0, d1, d2, d3, d4, d5, hba⟩ := reqNew wr x
      have c0 := hc 0 _ rfl
      rw [Nat.add_zero] at c0
      have c1 := hc 1 _ rfl
      have c2 := hc 2 _ rfl
      have c3 := hc 3 _ rfl
      have c4 := hc 4 _ rfl
      have c5 := hc 5 _ rfl
      have hwa := hw.below hba
      have hbA := hb.trans (hba.mono (Nat.le_trans hbw hb.size))
      have e4a := (hba.cell (p := ⟨g, k * 6 + 4, none⟩) hg2).trans c4
      have hg3 : g < (wr.alloc (.cells #[.string x.star, .int .i64 x.frm, .int .i64 x.til, .int .i64 x.want, .int .i64 x.done, .int .i64 x.prio] 53)).heap.size := Nat.lt_of_lt_of_le hg2 hba.size
      have HX := Lib.hid hx
      have HOx := Lib.hid hox
      have HWA := Lib.hid hwa
      have HBA := Lib.hid hbA
      have HG3 := Lib.hid hg3
      clear hc htk hx hox hw hb hba hwa hbA hg3
      cases h1 : (x.star.toList == s.toList) with
      | false =>
        have HK := Lib.hid (srvK_keep (s := s) (t := t) HX.out (by rw [h1]; rfl))
        rw [HK.out] at HWA
        go_wp2_with fail
        go_roundw
        case rel => exact ⟨k + 1, by omega, by go_num, HWA.out, HBA.out⟩
        case measure => simp [intOf]; omega
      | true =>
        have HE4 := Lib.hid e4a
        clear e4a
        go_wp2_with fail
        refine (reqOpen_any x t _).mono ?_
        rintro e wq ⟨rfl, hbb⟩
        have hwq := HWA.out.below hbb
        have hbq := HBA.out.trans (hbb.mono (Nat.le_trans hbw HBA.out.size))
        have e4 := (hbb.cell (p := ⟨g, k * 6 + 4, none⟩) HG3.out).trans HE4.out
        clear hbb c0 c1 c2 c3 c4 c5 d0 d1 d2 d3 d4 d5
        cases h2 : opnB x t with
        | false =>
          have HK := Lib.hid (srvK_keep (s := s) (t := t) HX.out (by rw [h1, h2]; rfl))
          rw [HK.out] at hwq
          clear h2
          go_wp2_with fail
          go_roundw
          case rel => exact ⟨k + 1, by omega, by go_num, hwq, hbq⟩
          case measure => simp [intOf]; omega
        | true =>
          have i0 := opn_wrap HOx.out h2
          have HK : Hid ((srvK s t rs k).set k { x with done := x.done + 1 } = srvK s t rs (k + 1)) := Lib.hid (by rw [← srv1_yes h1 h2]; exact srvK_step HX.out)
          have HA := Lib.hid (srvK_at (s := s) (t := t) HX.out)
          have hs2 : base ≤ wq.heap.size := Nat.le_trans hbw hbq.size
          clear h1 h2 HX HOx HE4 HWA HBA HG3
          obtain ⟨f0, f1, f2, f3, f4, f5⟩ := x
          simp only at i0 e4 HK HA
          have he0 : Hid ((Req.enc ⟨f0, f1, f2, f3, f4, f5⟩).set 4 (.int .i64 (f4 + 1)) = Req.enc ⟨f0, f1, f2, f3, f4 + 1, f5⟩) := Lib.hid rfl
          go_wp2_with (with_reducible refine wpl_setf Req.len (by decide) _ rfl 2 (.tmp 31) (.tmp 29) rfl g (k * 6 + 4) rfl (.int .i64 (f4 + 1)) rfl (cells_i _) (one_i _) ?s1 base 53 n c k 4 _ hwq ⟨f0, f1, f2, f3, f4, f5⟩ ⟨f0, f1, f2, f3, f4 + 1, f5⟩ HA (by decide) he0 rfl base hg1 hs2 _ HK ?_)
          case s1 => kernel_rfl
          intro w4 ho5 hb5 _
          have hb6 := hbq.trans hb5
          clear e4 i0
          go_wp2_with fail
          go_roundw
          case rel => exact ⟨k + 1, by omega, by go_num, ho5, hb6⟩
          case measure => simp [intOf]; omega
    · obtain rfl : k = n := by omega
      rw [srvK_all _ _ _ _ HL.out] at hw
      go_wp2_with fail
      go_end0
      exact ⟨rfl, hw, hb⟩
end

def srvC (rs : List Req) (s : ByteArray) (t : Int) : Int := if cdR rs t = 0 ∧ nameB s = false then 2 else cdR rs t
def srvR (rs : List Req) (s : ByteArray) (t : Int) : List Req := if srvC rs s t = 0 then srvL s t rs else []
section
variable (rs : List Req) (s : ByteArray) (t : Int) (a : Option Addr) (n c : Nat) (w : World) (hs : s.size ≤ 1048576) (hn : n ≤ 1048576) (hl : rs.length = n) (ho : ∀ v ∈ rs, Req.Ok v) (hr : Rd Req.enc 6 w a rs)
include hs hn hl ho hr

set_option maxHeartbeats 2000000 in
theorem specServe : Calls Try.prog 20 #[.slice a n c, .string s, .int .i64 t] w fun e w' => ∃ a' n' c', e = .returned (.tuple #[.slice a' n' c', .int .i64 (srvC rs s t)]) ∧ n' ≤ 1048576 ∧ Ow Req.enc 6 w' w.heap.size 53 (.slice a' n' c') n' (srvR rs s t) ∧ Below w.heap.size w w' := by
  have HL := Lib.hid hl
  have HO := Lib.hid ho
  clear hl ho
  have HSZ := Lib.hid hs
  clear hs
  by_cases hz : cdR rs t = 0
  case neg =>
    have d0 : (cdR rs t != 0) = true := by rw [bne_iff_ne]; exact hz
    have d1 : (cdR rs t == 0) = false := by rw [beq_eq_false_iff_ne]; exact hz
    have e1 : srvC rs s t = cdR rs t := if_neg (fun h => hz h.1)
    have HZ : Hid (srvR rs s t = []) := Lib.hid (by rw [srvR, e1]; exact if_neg hz)
    rw [e1]
    clear hz e1
    go_enter Try.func20, Try.ntmps20
    go_wp2_with fail
    refine (l22Code_any rs t a n c _ hn HL.out HO.out hr).mono ?_
    rintro e w1 ⟨rfl, hb⟩
    go_wp2_with fail
    go_ret2
    exact ⟨none, 0, 0, rfl, by omega, by rw [HZ.out]; exact Ow.nil _ _ _, hb⟩
  cases hnm : nameB s with
  | false =>
    have e1 : srvC rs s t = 2 := if_pos ⟨hz, hnm⟩
    have HR : Hid (srvR rs s t = []) := Lib.hid (by rw [srvR, e1]; rfl)
    rw [e1]
    have HZ := Lib.hid hz
    have HNM := Lib.hid hnm
    clear hz hnm e1
    go_enter Try.func20, Try.ntmps20
    go_wp2_with fail
    refine (l22Code_any rs t a n c _ hn HL.out HO.out hr).mono ?_
    rintro e w1 ⟨rfl, hb⟩
    rw [HZ.out]
    go_wp2_with fail
    refine (specIsName_any s _ (by have := HSZ.out; omega)).mono ?_
    rintro e w2 ⟨rfl, rfl⟩
    rw [HNM.out]
    go_wp2_with fail
    go_ret2
    exact ⟨none, 0, 0, rfl, by omega, by rw [HR.out]; exact Ow.nil _ _ _, hb⟩
  | true =>
  have e1 : srvC rs s t = 0 := (if_neg (by rw [hnm]; simp)).trans hz
  have e2 : srvR rs s t = srvL s t rs := by rw [srvR, e1]; rfl
  rw [e1, e2]
  have HZ := Lib.hid hz
  have HNM := Lib.hid hnm
  clear hz hnm e1 e2
  go_enter Try.func20, Try.ntmps20
  go_wp2_with fail
  refine (l22Code_any rs t a n c _ hn HL.out HO.out hr).mono ?_
  rintro e w1 ⟨rfl, hb⟩
  rw [HZ.out]
  go_wp2_with fail
  refine (specIsName_any s _ (by have := HSZ.out; omega)).mono ?_
  rintro e w2 ⟨rfl, rfl⟩
  rw [HNM.out]
  have hb0 := below_built w1 53
  have hoB := Ow.built Req.enc 6 w1 53
  have hr' := (hr.below hb).below hb0
  have hsz : w1.heap.size ≤ (w1.alloc (.cells #[] 53)).heap.size := hb0.size
  have hn0 : 0 + n ≤ maxLen := by unfold maxLen; omega
  have hn1 : (0 + n) * 56 ≤ 140737488355328 := by omega
  have hy : Hid ([] ++ rs = rs) := Lib.hid rfl
  go_wp2_with (at_builtin; refine wpl_apps Req.len (by decide) Req.one _ rfl (.tmp 23) (.tmp 24) 24 rfl 53 _ 56 rfl Try.underlying24 copyInfo53 w1.heap.size _ 0 _ rfl hoB rs n HL.out _ c rfl hr' hn0 hn1 hsz rs hy ?_)
  intro a' c' w3 ho3 hb4
  clear hr hr' hoB
  have HB4 := Lib.hid (hb0.trans hb4)
  clear hb0 hb4
  go_wp2_with fail
  refine (l22Serve_any rs s t a' n c' w1.heap.size _ hn HL.out HO.out HB4.out.size ho3).mono ?_
  rintro e w4 ⟨rfl, ho5, hb5⟩
  go_wp2_with fail
  go_ret2
  exact ⟨_, _, _, rfl, hn, ho5.mono hb.size, hb.trans ((HB4.out.trans hb5).mono hb.size)⟩

set_option maxHeartbeats 2000000 in
theorem implServe : Calls Try.prog 21 #[.slice a n c, .string s, .int .i64 t] w fun e w' => ∃ a' n' c', e = .returned (.tuple #[.slice a' n' c', .int .i64 (srvC rs s t)]) ∧ n' ≤ 1048576 ∧ Ow Req.enc 6 w' w.heap.size 53 (.slice a' n' c') n' (srvR rs s t) ∧ Below w.heap.size w w' := by
  have HL := Lib.hid hl
  have HO := Lib.hid ho
  clear hl ho
  have HSZ := Lib.hid hs
  clear hs
  cases hv : reqsB rs with
  | false =>
    have e1 : srvC rs s t = 1 := by rw [srvC, cdR_bad hv]; rfl
    have e2 : srvR rs s t = [] := by rw [srvR, e1]; rfl
    rw [e1, e2]
    have Hv := Lib.hid hv
    clear e1 e2 hv
    go_enter Try.func21, Try.ntmps21
    go_wp2_with fail
    refine (ValidRequests_any rs a n c _ hn HL.out HO.out hr).mono ?_
    rintro e w1 ⟨rfl, hb⟩
    rw [Hv.out]
    go_wp2_with fail
    go_ret2
    exact ⟨none, 0, 0, rfl, by omega, Ow.nil _ _ _, hb⟩
  | true =>
  cases ht : inB t 0 10000000 with
  | false =>
    have e1 : srvC rs s t = 2 := by rw [srvC, cdR_no hv ht]; rfl
    have e2 : srvR rs s t = [] := by rw [srvR, e1]; rfl
    rw [e1, e2]
    have Hv := Lib.hid hv
    have Ht := Lib.hid ht
    clear e1 e2 hv ht
    go_enter Try.func21, Try.ntmps21
    go_wp2_with fail
    refine (ValidRequests_any rs a n c _ hn HL.out HO.out hr).mono ?_
    rintro e w1 ⟨rfl, hb⟩
    rw [Hv.out]
    go_wp2_with fail
    refine (ValidTime_any t _).mono ?_
    rintro e w2 ⟨rfl, rfl⟩
    rw [Ht.out]
    go_wp2_with fail
    go_ret2
    exact ⟨none, 0, 0, rfl, by omega, Ow.nil _ _ _, hb⟩
  | true =>
  cases hm : nameB s with
  | false =>
    have e1 : srvC rs s t = 2 := by rw [srvC, cdR_ok hv ht, hm]; rfl
    have e2 : srvR rs s t = [] := by rw [srvR, e1]; rfl
    rw [e1, e2]
    have Hv := Lib.hid hv
    have Ht := Lib.hid ht
    have Hm := Lib.hid hm
    clear e1 e2 hv ht hm
    go_enter Try.func21, Try.ntmps21
    go_wp2_with fail
    refine (ValidRequests_any rs a n c _ hn HL.out HO.out hr).mono ?_
    rintro e w1 ⟨rfl, hb⟩
    rw [Hv.out]
    go_wp2_with fail
    refine (ValidTime_any t _).mono ?_
    rintro e w2 ⟨rfl, rfl⟩
    rw [Ht.out]
    go_wp2_with fail
    refine (implIsName_any s _ (by have := HSZ.out; omega)).mono ?_
    rintro e w2 ⟨rfl, rfl⟩
    rw [Hm.out]
    go_wp2_with fail
    go_ret2
    exact ⟨none, 0, 0, rfl, by omega, Ow.nil _ _ _, hb⟩
  | true =>
  have e1 : srvC rs s t = 0 := by rw [srvC, cdR_ok hv ht, hm]; rfl
  have e2 : srvR rs s t = srvL s t rs := by rw [srvR, e1]; rfl
  rw [e1, e2]
  have Hv := Lib.hid hv
  have Ht := Lib.hid ht
  have Hm := Lib.hid hm
  clear e1 e2 hv ht hm
  go_enter Try.func21, Try.ntmps21
  go_wp2_with fail
  refine (ValidRequests_any rs a n c _ hn HL.out HO.out hr).mono ?_
  rintro e w1 ⟨rfl, hb⟩
  rw [Hv.out]
  go_wp2_with fail
  refine (ValidTime_any t _).mono ?_
  rintro e w2 ⟨rfl, rfl⟩
  rw [Ht.out]
  go_wp2_with fail
  refine (implIsName_any s _ (by have := HSZ.out; omega)).mono ?_
  rintro e w2 ⟨rfl, rfl⟩
  rw [Hm.out]
  go_wp2_with fail
  refine (copyOfReq_any rs a n c _ hn HL.out (hr.below hb)).mono ?_
  rintro e w3 ⟨a', c', rfl, ho3, hb4⟩
  clear hr
  go_wp2_with fail
  refine (serve_any rs s t a' n c' w1.heap.size _ hn HL.out HO.out hb4.size ho3).mono ?_
  rintro e w4 ⟨rfl, ho5, hb5⟩
  go_wp2_with fail
  go_ret2
  exact ⟨_, _, _, rfl, hn, ho5.mono hb.size, hb.trans ((hb4.trans hb5).mono hb.size)⟩
end
end Go.Proofs.Ytababgnlogfphaa
