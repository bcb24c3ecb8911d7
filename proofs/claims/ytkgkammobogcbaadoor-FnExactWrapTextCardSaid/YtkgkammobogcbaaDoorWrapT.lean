/-
  Wrapped texts, in the program and in the reference.
-/
import Derived.Test.YtkgkammobogcbaaDoorWrap
import Derived.BigQuiet
namespace Go.Proofs.YtkgkammobogcbaaDoor
open Go.RowKit
set_option maxRecDepth 100000

/-- what the walks know of the law's code and lines -/
def WrapIs (wd : Int) (WS : List ByteArray) (C : Int) (LL : List ByteArray) : Prop := ((∃ x ∈ WS, ¬ (x.size : Int) ≤ wd) → C = 5 ∧ LL = []) ∧ ((∀ x ∈ WS, (x.size : Int) ≤ wd) → C = 0 ∧ LL = WS.foldl (addW wd) [])
theorem wrapIs {s : ByteArray} {wd : Int} (h : (1 ≤ wd ∧ wd ≤ 80) ∧ s.size ≤ 2000) : WrapIs wd (words s) (wrapC s wd true) (wrapL s wd true) := by
  refine ⟨fun ⟨x, hx, h5⟩ => ?_, fun h0 => ?_⟩
  · have hc : wrapC s wd true = 5 := by rw [wrapC_in h, allFit_bad hx h5]; rfl
    exact ⟨hc, wrapL_no (by rw [hc]; decide)⟩
  · have hc : wrapC s wd true = 0 := by rw [wrapC_in h, allFit_ok h0]; rfl
    exact ⟨hc, wrapL_ok hc⟩
theorem fits_step {wd : Int} {l : List ByteArray} {k : Nat} {x : ByteArray} (hx : l[k]? = some x) (h : ∀ y ∈ l.take k, (y.size : Int) ≤ wd) (h1 : (x.size : Int) ≤ wd) : ∀ y ∈ l.take (k + 1), (y.size : Int) ≤ wd := by
  obtain ⟨h2, h3⟩ := List.getElem?_eq_some_iff.1 hx
  rw [List.take_succ_eq_append_getElem h2, h3]
  intro y hy
  rcases List.mem_append.1 hy with hy | hy
  · exact h y hy
  · rw [List.mem_singleton] at hy; rw [hy]; exact h1
theorem set_len {L M : List ByteArray} {m : Nat} {v : ByteArray} (h : M = L.set m v) : M.length = L.length := by rw [h]; simp
set_option maxHeartbeats 4000000 in
theorem specWrap (s : ByteArray) (wd : Int) (w : World) (hs : s.size ≤ 1048576) : Calls Tryd.prog 6 #[.string s, .int .i64 wd] w fun e w' => ∃ a' n' c', e = .returned (.tuple #[.slice a' n' c', .int .i64 (wrapC s wd (plainB s))]) ∧ n' ≤ 1048576 ∧ Ow eS 1 w' w.heap.size 9 (.slice a' n' c') n' (wrapL s wd (plainB s)) ∧ Below w.heap.size w w' := by
  cases hp : plainB s
  case false =>
    rw [wrapL_no (by rw [wrapC_7]; decide), wrapC_7]
    have HPL : Hid (∀ w', Calls Tryd.prog 23 #[.string s] w' fun e w'' => e = .returned (.bool false) ∧ w' = w'') := Lib.hid fun w' => hp ▸ l24Plain_any s w' (by omega)
    clear hp
    go_enter Tryd.func6, Tryd.ntmps6
    go_wp2_with ((go_at_call 23; refine (HPL.out _).mono ?_; rintro e w2 ⟨rfl, rfl⟩))
    go_ret2
    exact ⟨none, 0, 0, rfl, by omega, Ow.nil _ _ _, Below.refl _ _⟩
  case true =>
  have HPL : Hid (∀ w', Calls Tryd.prog 23 #[.string s] w' fun e w'' => e = .returned (.bool true) ∧ w' = w'') := Lib.hid fun w' => hp ▸ l24Plain_any s w' (by omega)
  clear hp
  by_cases h12 : (1 ≤ wd ∧ wd ≤ 80) ∧ s.size ≤ 2000
  case neg =>
    rw [wrapL_no (by rw [wrapC_2 h12]; decide), wrapC_2 h12]
    by_cases h1 : 1 ≤ wd ∧ wd ≤ 80
    · have HIN := Lib.hid (fun w' => l00In_lit wd 1 80 true w' (by unfold inB; simp; omega))
      have h2 : 2000 < s.size := by omega
      go_enter Tryd.func6, Tryd.ntmps6
      go_wp2_with (first | (go_at_call 23; refine (HPL.out _).mono ?_; rintro e w2 ⟨rfl, rfl⟩) | (go_at_call 24; refine (HIN.out _).mono ?_; rintro e w2 ⟨rfl, rfl⟩))
      go_ret2
      exact ⟨none, 0, 0, rfl, by omega, Ow.nil _ _ _, Below.refl _ _⟩
    · have HIN := Lib.hid (fun w' => l00In_lit wd 1 80 false w' (by unfold inB; simp; omega))
      clear h1 h12
      go_enter Tryd.func6, Tryd.ntmps6
      go_wp2_with (first | (go_at_call 23; refine (HPL.out _).mono ?_; rintro e w2 ⟨rfl, rfl⟩) | (go_at_call 24; refine (HIN.out _).mono ?_; rintro e w2 ⟨rfl, rfl⟩))
      go_ret2
      exact ⟨none, 0, 0, rfl, by omega, Ow.nil _ _ _, Below.refl _ _⟩
  case pos =>
  have HWI := Lib.hid (wrapIs h12)
  have HWL : Hid ((words s).length ≤ 2001) := Lib.hid (by have h9 := words_len s; omega)
  have HIN := Lib.hid (fun w' => l00In_lit wd 1 80 true w' (by unfold inB; simp; omega))
  have HWD := Lib.hid (fun w' => specWords s w' hs)
  obtain ⟨⟨h10, h11⟩, h13⟩ := h12
  generalize wrapC s wd true = C at *
  generalize wrapL s wd true = LL at *
  generalize words s = WS at *
  go_enter Tryd.func6, Tryd.ntmps6
  go_wp2_with (first | (go_at_call 23; refine (HPL.out _).mono ?_; rintro e w2 ⟨rfl, rfl⟩) | (go_at_call 24; refine (HIN.out _).mono ?_; rintro e w2 ⟨rfl, rfl⟩))
  refine (HWD.out _).mono ?_
  rintro e w2 ⟨a3, n3, c3, rfl, hn3, ho3, hb2⟩
  have HCL := Lib.hid (ho3.len eS_len (by decide))
  have HRD := Lib.hid (ho3.rd eS_len (by decide))
  have HB2 := Lib.hid hb2
  clear ho3 hb2 HPL HIN HWD h13 hs
  have hbb := below_built w2 9
  have hbo := Ow.built eS 1 w2 9
  have HBB := Lib.hid hbb
  have HBO := Lib.hid hbo
  clear hbb hbo
  go_wp2_with fail
  go_loopw [7, 8] (fun o i wr => ∃ (k m : Nat) (a2 : Option Addr) (c2 : Nat) (L : List ByteArray), k ≤ n3 ∧ m ≤ k ∧ i = .int .i64 k ∧ o = .slice a2 m c2 ∧ Ow eS 1 wr w2.heap.size 9 (.slice a2 m c2) m L ∧ Hid ((WS.take k).foldl (addW wd) [] = L ∧ (∀ y ∈ WS.take k, (y.size : Int) ≤ wd) ∧ ∀ y ∈ L, (y.size : Int) ≤ wd) ∧ Below w2.heap.size w2 wr) (fun _ i _ => n3 - (intOf i).toNat)
  case atStart => exact ⟨0, 0, _, _, [], Nat.zero_le _, Nat.le_refl _, rfl, rfl, HBO.out, Lib.hid ⟨rfl, by simp, by simp⟩, HBB.out⟩
  case round =>
    obtain ⟨k, m, a2, c2, L, hk, hmk, rfl, rfl, ho, HI, hb⟩ := hrel
    by_cases hlt : k < n3
    · obtain ⟨x, hx, htk⟩ := take_snoc' WS k (by rw [HCL.out]; exact hlt)
      clear htk
      obtain ⟨b, o, hab, hbl, hc⟩ := (HRD.out.below hb).at1 hx rfl
      subst hab
      have hlen := ho.len eS_len (by decide)
      by_cases hsz : (x.size : Int) ≤ wd
      case neg =>
        have HF := Lib.hid (HWI.out.1 ⟨x, List.mem_of_getElem? hx, hsz⟩)
        have d1 : (wd : Int) < x.size := by omega
        clear hx hlen
        go_wp2_with fail
        go_ret2
        exact ⟨none, 0, 0, by rw [HF.out.1] <;> rfl, by omega, by rw [HF.out.2]; exact Ow.nil _ _ _, HB2.out.trans (hb.mono HB2.out.size)⟩
      case pos =>
      have HST := fold_step (wd := wd) hx
      rw [HI.out.1] at HST
      have HFT := Lib.hid (fits_step hx HI.out.2.1 hsz)
      have HLS := Lib.hid (addW_size HI.out.2.2 hsz)
      have d0 : ¬ (wd : Int) < x.size := by omega
      have h63 : m + 1 ≤ maxLen := by unfold maxLen; omega
      have hby : (m + 1) * 16 ≤ 140737488355328 := by omega
      by_cases hm0 : m = 0
      · subst hm0
        have hL0 : L = [] := List.eq_nil_of_length_eq_zero hlen
        subst hL0
        rw [joins_first] at HST HLS
        have HSTH := Lib.hid HST
        have HY : Hid (([] : List ByteArray) ++ [x] = [x]) := Lib.hid rfl
        have d2 : decide (0 < 0) = false := rfl
        clear hx HST hlen
        go_wp2_with fail
        go_quiet (fail)
        have hb2 : Below w2.heap.size w2 (wr.drewN nq) := below_drewN hb nq
        have ho2 := ho.below (below_drewN (Below.refl wr.heap.size wr) nq)
        have hc2 := (below_drewN (Below.refl wr.heap.size wr) nq).cell (p := ⟨b, o + k, none⟩) hbl
        rw [hc] at hc2
        clear ho hb hc hbl
        generalize wr.drewN nq = wq at *
        go_wp2_with (at_builtin; refine wpl_app eS_len (by decide) _ rfl (.tmp 70) (.tmp 75) 22 rfl 9 (.string ByteArray.empty) 16 rfl Tryd.underlying22 infoSt w2.heap.size _ 0 _ rfl wq _ 9 rfl ho2 x rfl rfl (eS_one _) h63 hby hb2.size _ HY ?_)
        intro a4 c4 w6 ho6 hb6 _
        have hb7 := hb2.trans hb6
        clear ho2 hb2 hb6 hc2
        go_wp2_with fail
        go_roundw
        case rel => exact ⟨k + 1, 0 + 1, a4, c4, _, by omega, by omega, by go_num, by simp, ho6, Lib.hid ⟨HSTH.out, HFT.out, HLS.out⟩, hb7⟩
        case measure => simp [intOf]; omega
      · obtain ⟨l, hl, htk⟩ := take_snoc' L (m - 1) (by omega)
        clear htk
        have hls := HI.out.2.2 l (List.mem_of_getElem? hl)
        obtain ⟨g, rfl, hg, _⟩ := ho.at_ (by omega)
        obtain ⟨g', o2, he2, hgl, hcl⟩ := (ho.rd eS_len (by decide)).at1 hl rfl
        simp only [Option.some.injEq, Addr.mk.injEq, and_true] at he2
        obtain ⟨rfl, rfl⟩ := he2
        rw [Nat.zero_add] at hcl
        have e1 : decide (0 < m) = true := by simp; omega
        have e2 : (0 : Int) ≤ (m : Int) - 1 := by omega
        have e3 : (m : Int) - 1 < (m : Int) := by omega
        have e4 : ((m : Int) - 1).toNat = m - 1 := by omega
        have e5 : (k : Int) < (n3 : Int) := by omega
        have e7 : (1 : Int) ≤ (m : Int) := by omega
        have e6 : IntKind.i64.wrap ((m : Int) - 1) = (m : Int) - 1 := IntWalk.i64_in _ (by omega)
        by_cases hj : (l.size : Int) + 1 + x.size ≤ wd
        · rw [joins_yes hlen (by omega) hl hj] at HST HLS
          obtain ⟨M, hM⟩ : ∃ M, L.set (m - 1) (l ++ (blankB ++ x)) = M := ⟨_, rfl⟩
          rw [hM] at HST HLS
          have HSTH := Lib.hid HST
          have HY := Lib.hid hM
          clear hM
          have d2 : decide ((l.size : Int) + 1 + x.size ≤ wd) = true := by simp; omega
          have e8 : ¬ 9223372036854775807 < 1 + x.size := by omega
          have e9 : ¬ 9223372036854775807 < l.size + (1 + x.size) := by omega
          clear hx HST hl
          go_wp2_with fail
          go_quiet (fail)
          have hb2 : Below w2.heap.size w2 (wr.drewN nq) := below_drewN hb nq
          have ho2 := ho.below (below_drewN (Below.refl wr.heap.size wr) nq)
          have hc2 := (below_drewN (Below.refl wr.heap.size wr) nq).cell (p := ⟨b, o + k, none⟩) hbl
          rw [hc] at hc2
          have hcl2 := (below_drewN (Below.refl wr.heap.size wr) nq).cell (p := ⟨g, m - 1, none⟩) hgl
          rw [hcl] at hcl2
          clear ho hb hc hbl hcl hgl d2
          generalize wr.drewN nq = wq at *
          go_wp2_with fail
          go_still_tail 12, (by kernel_rfl)
          change wpList _ _ _ _ _ wq.drew
          have hoD := ho2.below (Below.refl wq.heap.size wq).drew
          have hbD : Below w2.heap.size w2 wq.drew := hb2.drew
          clear ho2 hb2 hc2 hcl2
          generalize wq.drew = wz at *
          go_wp2_with (with_reducible refine wpl_set eS_len (by decide) _ rfl 9 (.tmp 69) (.tmp 68) rfl g (m - 1) rfl _ rfl (l ++ (blankB ++ x)) rfl szS (eS_one _) w2.heap.size 9 m _ (m - 1) _ hoD (by omega) (Nat.mul_one _).symm w2.heap.size hg hbD.size _ HY ?_)
          intro w8 hown8 hb8' _
          have hb9 := hbD.trans hb8'
          clear hoD hbD hb8'
          go_wp2_with fail
          go_roundw
          case rel => exact ⟨k + 1, m, _, _, _, by omega, by omega, by go_num, rfl, hown8, Lib.hid ⟨HSTH.out, HFT.out, HLS.out⟩, hb9⟩
          case measure => simp [intOf]; omega
        · rw [joins_no hlen hl hj] at HST HLS
          obtain ⟨M, hM⟩ : ∃ M, L ++ [x] = M := ⟨_, rfl⟩
          rw [hM] at HST HLS
          have HSTH := Lib.hid HST
          have HY := Lib.hid hM
          clear hM
          have d2 : decide ((l.size : Int) + 1 + x.size ≤ wd) = false := by simp; omega
          clear hx HST hl
          go_wp2_with fail
          go_quiet (fail)
          have hb2 : Below w2.heap.size w2 (wr.drewN nq) := below_drewN hb nq
          have ho2 := ho.below (below_drewN (Below.refl wr.heap.size wr) nq)
          have hc2 := (below_drewN (Below.refl wr.heap.size wr) nq).cell (p := ⟨b, o + k, none⟩) hbl
          rw [hc] at hc2
          clear ho hb hc hbl hcl hgl d2 e1 e2 e3 e4 e6
          generalize wr.drewN nq = wq at *
          go_wp2_with (at_builtin; refine wpl_app eS_len (by decide) _ rfl (.tmp 70) (.tmp 75) 22 rfl 9 (.string ByteArray.empty) 16 rfl Tryd.underlying22 infoSt w2.heap.size _ m _ rfl wq _ 9 rfl ho2 x rfl rfl (eS_one _) h63 hby hb2.size _ HY ?_)
          intro a4 c4 w6 ho6 hb6 _
          have hb7 := hb2.trans hb6
          clear ho2 hb2 hb6 hc2
          go_wp2_with fail
          go_roundw
          case rel => exact ⟨k + 1, m + 1, a4, c4, _, by omega, by omega, by go_num, by simp, ho6, Lib.hid ⟨HSTH.out, HFT.out, HLS.out⟩, hb7⟩
          case measure => simp [intOf]; omega
    · obtain rfl : k = n3 := by omega
      have hta : WS.take k = WS := List.take_of_length_le (by rw [HCL.out]; exact Nat.le_refl _)
      rw [hta] at HI
      have HF := Lib.hid (HWI.out.2 HI.out.2.1)
      have HL := Lib.hid (HF.out.2.trans HI.out.1)
      clear hta
      go_wp2_with fail
      go_ret2
      exact ⟨a2, m, c2, by rw [HF.out.1] <;> rfl, by have h91 := HCL.out; have h92 := HWL.out; omega, by rw [HL.out]; exact ho.mono HB2.out.size, HB2.out.trans (hb.mono HB2.out.size)⟩
set_option maxHeartbeats 4000000 in
theorem implWrap (s : ByteArray) (wd : Int) (w : World) (hs : s.size ≤ 1048576) (hM : MaxOk w) : Calls Tryd.prog 7 #[.string s, .int .i64 wd] w fun e w' => ∃ a' n' c', e = .returned (.tuple #[.slice a' n' c', .int .i64 (wrapC s wd (plainB s))]) ∧ n' ≤ 1048576 ∧ Ow eS 1 w' w.heap.size 9 (.slice a' n' c') n' (wrapL s wd (plainB s)) ∧ Below w.heap.size w w' := by
  cases hp : plainB s
  case false =>
    rw [wrapL_no (by rw [wrapC_7]; decide), wrapC_7]
    have HPL : Hid (∀ w', Calls Tryd.prog 26 #[.string s] w' fun e w'' => e = .returned (.bool false) ∧ w' = w'') := Lib.hid fun w' => hp ▸ isPlain_any s w' (by omega)
    clear hp
    go_enter Tryd.func7, Tryd.ntmps7
    go_wp2_with ((go_at_call 26; refine (HPL.out _).mono ?_; rintro e w2 ⟨rfl, rfl⟩))
    go_ret2
    exact ⟨none, 0, 0, rfl, by omega, Ow.nil _ _ _, Below.refl _ _⟩
  case true =>
  have HPL : Hid (∀ w', Calls Tryd.prog 26 #[.string s] w' fun e w'' => e = .returned (.bool true) ∧ w' = w'') := Lib.hid fun w' => hp ▸ isPlain_any s w' (by omega)
  clear hp
  by_cases h12 : (1 ≤ wd ∧ wd ≤ 80) ∧ s.size ≤ 2000
  case neg =>
    rw [wrapL_no (by rw [wrapC_2 h12]; decide), wrapC_2 h12]
    by_cases h1 : 1 ≤ wd ∧ wd ≤ 80
    · have HIN := Lib.hid (fun w' => in_lit wd 1 80 true w' (by unfold inB; simp; omega))
      have h2 : 2000 < s.size := by omega
      go_enter Tryd.func7, Tryd.ntmps7
      go_wp2_with (first | (go_at_call 26; refine (HPL.out _).mono ?_; rintro e w2 ⟨rfl, rfl⟩) | (go_at_call 27; refine (HIN.out _).mono ?_; rintro e w2 ⟨rfl, rfl⟩))
      go_ret2
      exact ⟨none, 0, 0, rfl, by omega, Ow.nil _ _ _, Below.refl _ _⟩
    · have HIN := Lib.hid (fun w' => in_lit wd 1 80 false w' (by unfold inB; simp; omega))
      clear h1 h12
      go_enter Tryd.func7, Tryd.ntmps7
      go_wp2_with (first | (go_at_call 26; refine (HPL.out _).mono ?_; rintro e w2 ⟨rfl, rfl⟩) | (go_at_call 27; refine (HIN.out _).mono ?_; rintro e w2 ⟨rfl, rfl⟩))
      go_ret2
      exact ⟨none, 0, 0, rfl, by omega, Ow.nil _ _ _, Below.refl _ _⟩
  case pos =>
  have HWI := Lib.hid (wrapIs h12)
  have HWL : Hid ((words s).length ≤ 2001) := Lib.hid (by have h9 := words_len s; omega)
  have HIN := Lib.hid (fun w' => in_lit wd 1 80 true w' (by unfold inB; simp; omega))
  have HWD := Lib.hid (fun w' h => implWords s w' hs h)
  have hbb := below_built w 9
  have hbo := Ow.built eS 1 w 9
  have HM1 := Lib.hid (hM.below hbb)
  have HBB0 := Lib.hid hbb
  have HBO0 := Lib.hid hbo
  clear hbb hbo hM
  obtain ⟨⟨h10, h11⟩, h13⟩ := h12
  generalize wrapC s wd true = C at *
  generalize wrapL s wd true = LL at *
  generalize words s = WS at *
  go_enter Tryd.func7, Tryd.ntmps7
  go_wp2_with (first | (go_at_call 26; refine (HPL.out _).mono ?_; rintro e w2 ⟨rfl, rfl⟩) | (go_at_call 27; refine (HIN.out _).mono ?_; rintro e w2 ⟨rfl, rfl⟩))
  refine (HWD.out _ HM1.out).mono ?_
  rintro e w2 ⟨a3, n3, c3, rfl, hn3, ho3, hb2⟩
  have HCL := Lib.hid (ho3.len eS_len (by decide))
  have HRD := Lib.hid (ho3.rd eS_len (by decide))
  have HBO := Lib.hid (HBO0.out.below hb2)
  have HB2 := Lib.hid (HBB0.out.trans (hb2.mono HBB0.out.size))
  clear ho3 hb2 HPL HIN HWD HM1 HBB0 HBO0 h13 hs
  go_wp2_with fail
  go_loopw [6, 27] (fun o i wr => ∃ (k m : Nat) (a2 : Option Addr) (c2 : Nat) (L : List ByteArray), k ≤ n3 ∧ m ≤ k ∧ i = .int .i64 k ∧ o = .slice a2 m c2 ∧ Hid ((m = 0 ∧ a2 = some ⟨w.heap.size, 0, none⟩ ∧ c2 = 0 ∧ L = []) ∨ (0 < m ∧ Ow eS 1 wr w2.heap.size 9 (.slice a2 m c2) m L)) ∧ Hid ((WS.take k).foldl (addW wd) [] = L ∧ (∀ y ∈ WS.take k, (y.size : Int) ≤ wd) ∧ ∀ y ∈ L, (y.size : Int) ≤ wd) ∧ Below w2.heap.size w2 wr) (fun _ i _ => n3 - (intOf i).toNat)
  case atStart => exact ⟨0, 0, _, _, [], Nat.zero_le _, Nat.le_refl _, rfl, rfl, Lib.hid (Or.inl ⟨rfl, rfl, rfl, rfl⟩), Lib.hid ⟨rfl, by simp, by simp⟩, Below.refl _ _⟩
  case round =>
    obtain ⟨k, m, a2, c2, L, hk, hmk, rfl, rfl, HO, HI, hb⟩ := hrel
    by_cases hlt : k < n3
    · obtain ⟨x, hx, htk⟩ := take_snoc' WS k (by rw [HCL.out]; exact hlt)
      clear htk
      obtain ⟨b, o, hab, hbl, hc⟩ := (HRD.out.below hb).at1 hx rfl
      subst hab
      by_cases hsz : (x.size : Int) ≤ wd
      case neg =>
        have HF := Lib.hid (HWI.out.1 ⟨x, List.mem_of_getElem? hx, hsz⟩)
        have d1 : (wd : Int) < x.size := by omega
        clear hx
        go_wp2_with fail
        go_ret2
        exact ⟨none, 0, 0, by rw [HF.out.1] <;> rfl, by omega, by rw [HF.out.2]; exact Ow.nil _ _ _, HB2.out.trans (hb.mono HB2.out.size)⟩
      case pos =>
      have HST := fold_step (wd := wd) hx
      rw [HI.out.1] at HST
      have HFT := Lib.hid (fits_step hx HI.out.2.1 hsz)
      have HLS := Lib.hid (addW_size HI.out.2.2 hsz)
      have d0 : ¬ (wd : Int) < x.size := by omega
      have h63 : m + 1 ≤ maxLen := by unfold maxLen; omega
      have hby : (m + 1) * 16 ≤ 140737488355328 := by omega
      have e6 : IntKind.i64.wrap ((m : Int) - 1) = (m : Int) - 1 := IntWalk.i64_in _ (by omega)
      rcases HO.out with ⟨rfl, rfl, rfl, rfl⟩ | ⟨hm0, ho⟩
      · rw [joins_first] at HST HLS
        have HSTH := Lib.hid HST
        clear hx HST
        go_wp2_with (at_builtin; refine wpl_app0 _ rfl (.tmp 34) (.tmp 36) 22 rfl 9 (.string ByteArray.empty) 16 rfl Tryd.underlying22 infoSt w.heap.size rfl wr _ 9 rfl x rfl rfl (by decide) ?_)
        intro a4 c4 w6 ho6 hb6
        have HO6 := Lib.hid (ho6.mono hb.size)
        have hb7 := hb.trans (hb6.mono hb.size)
        clear ho6 hb hb6 hc hbl
        go_wp2_with fail
        go_roundw
        case rel => exact ⟨k + 1, 1, a4, c4, _, by omega, by omega, by go_num, by simp, Lib.hid (Or.inr ⟨by omega, HO6.out⟩), Lib.hid ⟨HSTH.out, HFT.out, HLS.out⟩, hb7⟩
        case measure => simp [intOf]; omega
      · have hlen := ho.len eS_len (by decide)
        obtain ⟨l, hl, htk⟩ := take_snoc' L (m - 1) (by omega)
        clear htk
        have hls := HI.out.2.2 l (List.mem_of_getElem? hl)
        obtain ⟨g, rfl, hg, _⟩ := ho.at_ (by omega)
        obtain ⟨g', o2, he2, hgl, hcl⟩ := (ho.rd eS_len (by decide)).at1 hl rfl
        simp only [Option.some.injEq, Addr.mk.injEq, and_true] at he2
        obtain ⟨rfl, rfl⟩ := he2
        rw [Nat.zero_add] at hcl
        clear HO
        have e2 : (0 : Int) ≤ (m : Int) - 1 := by omega
        have e3 : (m : Int) - 1 < (m : Int) := by omega
        have e4 : ((m : Int) - 1).toNat = m - 1 := by omega
        have e7 : (1 : Int) ≤ (m : Int) := by omega
        by_cases hj : (l.size : Int) + 1 + x.size ≤ wd
        · rw [joins_yes hlen (by omega) hl hj] at HST HLS
          obtain ⟨M, hM⟩ : ∃ M, L.set (m - 1) (l ++ (blankB ++ x)) = M := ⟨_, rfl⟩
          rw [hM] at HST HLS
          have HSTH := Lib.hid HST
          have HY := Lib.hid hM
          clear hM
          have d2 : decide ((l.size : Int) + 1 + x.size ≤ wd) = true := by simp; omega
          have e8 : ¬ 9223372036854775807 < 1 + x.size := by omega
          have e9 : ¬ 9223372036854775807 < l.size + (1 + x.size) := by omega
          clear hx HST hl
          go_wp2_with (with_reducible refine wpl_set eS_len (by decide) _ rfl 9 (.tmp 66) (.tmp 65) rfl g (m - 1) rfl _ rfl (l ++ (blankB ++ x)) rfl szS (eS_one _) w2.heap.size 9 m _ (m - 1) _ ho (by omega) (Nat.mul_one _).symm w2.heap.size hg hb.size _ HY ?_)
          intro w8 hown8 hb8' _
          have HO8 := Lib.hid hown8
          have hb9 := hb.trans hb8'
          clear ho hb hb8' hown8 hc hbl hcl hgl
          go_wp2_with fail
          go_roundw
          case rel => exact ⟨k + 1, m, _, _, _, by omega, by omega, by go_num, rfl, Lib.hid (Or.inr ⟨hm0, HO8.out⟩), Lib.hid ⟨HSTH.out, HFT.out, HLS.out⟩, hb9⟩
          case measure => simp [intOf]; omega
        · rw [joins_no hlen hl hj] at HST HLS
          obtain ⟨M, hM⟩ : ∃ M, L ++ [x] = M := ⟨_, rfl⟩
          rw [hM] at HST HLS
          have HSTH := Lib.hid HST
          have HY := Lib.hid hM
          clear hM
          have d2 : decide ((l.size : Int) + 1 + x.size ≤ wd) = false := by simp; omega
          clear hx HST hl
          go_wp2_with (at_builtin; refine wpl_app eS_len (by decide) _ rfl (.tmp 34) (.tmp 36) 22 rfl 9 (.string ByteArray.empty) 16 rfl Tryd.underlying22 infoSt w2.heap.size _ m _ rfl wr _ 9 rfl ho x rfl rfl (eS_one _) h63 hby hb.size _ HY ?_)
          intro a4 c4 w6 ho6 hb6 _
          have HO6 := Lib.hid ho6
          have hb7 := hb.trans hb6
          clear ho hb hb6 ho6 hc hbl hcl hgl
          go_wp2_with fail
          go_roundw
          case rel => exact ⟨k + 1, m + 1, a4, c4, _, by omega, by omega, by go_num, by simp, Lib.hid (Or.inr ⟨by omega, HO6.out⟩), Lib.hid ⟨HSTH.out, HFT.out, HLS.out⟩, hb7⟩
          case measure => simp [intOf]; omega
    · obtain rfl : k = n3 := by omega
      have hta : WS.take k = WS := List.take_of_length_le (by rw [HCL.out]; exact Nat.le_refl _)
      rw [hta] at HI
      have HF := Lib.hid (HWI.out.2 HI.out.2.1)
      have HL := HF.out.2.trans HI.out.1
      have hfin : Ow eS 1 wr w.heap.size 9 (.slice a2 m c2) m LL := by
        rw [HL]
        rcases HO.out with ⟨rfl, rfl, rfl, rfl⟩ | ⟨_, ho⟩
        · exact HBO.out.below hb
        · exact ho.mono HB2.out.size
      have HFIN := Lib.hid hfin
      clear hta hfin HL
      go_wp2_with fail
      go_ret2
      exact ⟨a2, m, c2, by rw [HF.out.1] <;> rfl, by have h91 := HCL.out; have h92 := HWL.out; omega, HFIN.out, HB2.out.trans (hb.mono HB2.out.size)⟩
end Go.Proofs.YtkgkammobogcbaaDoor
