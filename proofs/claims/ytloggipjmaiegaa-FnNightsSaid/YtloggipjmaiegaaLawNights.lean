/-
  For all bytes from which an ephemeris, windows and a number of bins are drawn the law FnNights returns true and leaves its arguments as they were. No condition.
-/
import Derived.Test.YtloggipjmaiegaaNi12
import Derived.Test.YtloggipjmaiegaaDrawW
import Derived.Test.YtloggipjmaiegaaCyc3
import Derived.ProofKit
import Derived.Deep.CutRange
import Derived.Deep.Light
import Derived.OpenShut
import Derived.ShutString
import Derived.ChangeOld
namespace Go.Proofs.Ytloggipjmaiegaa
open Go.RowKit

namespace fnNights
set_option maxRecDepth 100000
set_option linter.unusedVariables false

set_option maxHeartbeats 4000000 in
theorem law_walk (a0 : Option Addr) (n0 c0 : Nat) (x0 : List Int) (a1 : Option Addr) (n1 c1 : Nat) (x1 : List Int) (w : World) (l0 : x0.length = n0) (m0 : n0 ≤ maxLen) (o0 : ∀ v ∈ x0, Byt v) (w0 : Rd eB 1 w a0 x0) (l1 : x1.length = n1) (m1 : n1 ≤ maxLen) (o1 : ∀ v ∈ x1, Byt v) (w1 : Rd eB 1 w a1 x1) :
    Calls Try.prog 3 #[.slice a0 n0 c0, .slice a1 n1 c1] w fun e w' => e = .returned (.bool true) ∧ Below w.heap.size w w' := by
  by_cases hlen : n0 ≤ 3000 ∧ n1 ≤ 3000
  case neg =>
    go_enter Try.func3, Try.ntmps3
    go_wp2_with fail
    refine (a2Long_yes a0 a1 n0 n1 c0 c1 _ hlen m0 m1).mono ?_
    rintro e wv0 ⟨rfl, rfl⟩
    go_wp2_with fail
    go_ret
    exact ⟨rfl, Below.refl _ _⟩
  obtain ⟨hn0, hn1⟩ := hlen
  have HL0 := Lib.hid l0
  have HO0 := Lib.hid o0
  have HR0 := Lib.hid w0
  clear l0 o0 m0 w0
  have HL1 := Lib.hid l1
  have HO1 := Lib.hid o1
  have HR1 := Lib.hid w1
  clear l1 o1 m1 w1
  go_enter Try.func3, Try.ntmps3
  go_wp2_with fail
  refine (a2Long_any a0 a1 n0 n1 c0 c1 _ hn0 hn1).mono ?_
  rintro e wz ⟨rfl, rfl⟩
  go_wp2_with fail
  refine (A2Eph_any a0 n0 c0 x0 _ HL0.out HO0.out (HR0.out.below (Below.refl w.heap.size w))).mono ?_
  rintro e wv101 ⟨v, rfl, hv, hb102⟩
  have HB103 : Hid (Below w.heap.size w wv101) := Lib.hid hb102
  clear hb102
  have HV := Lib.hid hv
  clear hv
  have HX104 := CAt.new wv101 #[.int .i64 v.epoch, .int .i64 v.per] 25
  have hb105 := (Below.refl wv101.heap.size wv101).alloc (Nat.le_refl _) (.cells #[.int .i64 v.epoch, .int .i64 v.per] 25)
  obtain ⟨wv107, HW108⟩ : ∃ wx, wv101.alloc (.cells #[.int .i64 v.epoch, .int .i64 v.per] 25) = wx := ⟨_, rfl⟩
  obtain ⟨g106, HG109⟩ : ∃ gx, wv101.heap.size = gx := ⟨_, rfl⟩
  rw [HW108] at HX104 hb105
  rw [HG109] at HX104
  have hge110 : w.heap.size ≤ g106 := by rw [← HG109]; exact HB103.out.size
  have HX104_ := Lib.hid HX104
  clear HX104
  have HX104 := HX104_
  clear HX104_
  have HW108_ := Lib.hid HW108
  clear HW108
  have HW108 := HW108_
  clear HW108_
  have HG109_ := Lib.hid HG109
  clear HG109
  have HG109 := HG109_
  clear HG109_
  have HB111 : Hid (Below w.heap.size w wv107) := Lib.hid (HB103.out.trans (hb105.mono HB103.out.size))
  clear hb105
  go_upto_region 4 with (fail)
  rw [HW108.out]
  rw [HG109.out]
  go_wp2_with fail
  refine (A2Windows_any a1 n1 c1 x1 _ HL1.out HO1.out (HR1.out.below HB111.out)).mono ?_
  rintro e wv112 ⟨aw, kw, cw, ws, rfl, hws, how, hb113⟩
  have HB114 : Hid (Below w.heap.size w wv112) := Lib.hid (HB111.out.trans (hb113.mono HB111.out.size))
  have HX115 := Lib.hid (HX104.out.below hb113)
  clear hb113
  have HLW := Lib.hid (how.len Win.len (by decide))
  have HRW := Lib.hid (how.rd Win.len (by decide))
  have HWS := Lib.hid hws
  have hkw : kw ≤ 6 := by have h1 := HLW.out; have h2 := hws.1; omega
  have HWO := Lib.hid hws.valid
  clear hws how
  go_wp2_with fail
  refine (a2At_any 0 6 a0 n0 c0 x0 _ (by omega) (by omega) HL0.out HO0.out (HR0.out.below HB114.out)).mono ?_
  rintro e wz ⟨z116, rfl, hz116a, hz116b, rfl⟩
  obtain ⟨b, hb⟩ : ∃ b : Nat, 1 + z116 = (b : Int) := ⟨(1 + z116).toNat, by omega⟩
  have hb1 : 1 ≤ b := by omega
  have hb6 : b ≤ 6 := by omega
  have HBZ := Lib.hid hb
  clear hb
  by_cases hc120 : v.per < (b : Int)
  · have d121 : decide (v.per < (b : Int)) = true := decide_eq_true hc120
    have i122 : IntKind.i64.wrap (1 + z116) = (b : Int) := (IntWalk.i64_in _ (by omega)).trans HBZ.out
    have c123 : wv112.cell? ⟨g106, 0, none⟩ = some (.int .i64 v.epoch) := HX115.out.cell 0
    have c124 : wv112.cell? ⟨g106, 1, none⟩ = some (.int .i64 v.per) := HX115.out.cell 1
    go_wp2_with fail
    go_ret
    exact ⟨rfl, HB114.out⟩
  · have d125 : decide (v.per < (b : Int)) = false := decide_eq_false hc120
    by_cases hful : orN (shM v b ws) = 2 ^ b - 1
    · have d129 : decide (orN (shM v b ws) = 2 ^ b - 1) = true := decide_eq_true hful
      have i130 : IntKind.i64.wrap (1 + z116) = (b : Int) := (IntWalk.i64_in _ (by omega)).trans HBZ.out
      have c131 : wv112.cell? ⟨g106, 0, none⟩ = some (.int .i64 v.epoch) := HX115.out.cell 0
      have c132 : wv112.cell? ⟨g106, 1, none⟩ = some (.int .i64 v.per) := HX115.out.cell 1
      go_wp2_with fail
      refine (implMissing_any v ws aw kw cw b _ HV.out hb1 (by omega) (by omega) (by omega) HLW.out HWO.out (HRW.out)).mono ?_
      rintro e wv133 ⟨am, nm, cm, rfl, hlm, hrm, hb134⟩
      clear i130 c131 c132
      have HB135 : Hid (Below w.heap.size w wv133) := Lib.hid (HB114.out.trans (hb134.mono HB114.out.size))
      have HX136 := Lib.hid (HX115.out.below hb134)
      have HR137 := Lib.hid (HRW.out.below hb134)
      clear hb134
      have dm : ((nm : Int) == 0) = true := by have h1 := (imp_iff (v := v) (ws := ws) hb1).2 hful; rw [h1, List.length_nil] at hlm; rw [← hlm]; rfl
      clear hlm hrm
      have c138 : wv133.cell? ⟨g106, 0, none⟩ = some (.int .i64 v.epoch) := HX136.out.cell 0
      have c139 : wv133.cell? ⟨g106, 1, none⟩ = some (.int .i64 v.per) := HX136.out.cell 1
      go_wp2_with fail
      refine (few_ok v ws aw kw cw b _ HV.out hb1 (by omega) (by omega) (by omega) HLW.out HWO.out (HR137.out) hful).mono ?_
      rintro e wv140 ⟨lf, gf, cf, rfl, hfw, hrf, hb141⟩
      clear c138 c139
      have HB142 : Hid (Below w.heap.size w wv140) := Lib.hid (HB135.out.trans (hb141.mono HB135.out.size))
      have HX143 := Lib.hid (HX136.out.below hb141)
      have HR144 := Lib.hid (HR137.out.below hb141)
      clear hb141
      obtain ⟨kf, hkf⟩ : ∃ k, lf.length = k := ⟨_, rfl⟩
      rw [hkf]
      obtain ⟨af, haf⟩ : ∃ a, (some ⟨gf, 0, none⟩ : Option Addr) = a := ⟨_, rfl⟩
      rw [haf] at hrf ⊢
      clear haf
      have HLF := Lib.hid hkf
      have HRF := Lib.hid hrf
      have HFW := Lib.hid hfw
      have hlf : kf ≤ 6 := by have h1 := hfw.2.1; have h2 := HLW.out; have h3 : (shM v b ws).length = ws.length := (by simp [shM]); omega
      have HFR : Hid (risF kw 0 lf) := Lib.hid (by have h1 := hfw.2.2.1; rw [show (shM v b ws).length = kw by simp [shM, HLW.out]] at h1; exact h1)
      clear hrf hfw hkf
      have c145 : wv140.cell? ⟨g106, 0, none⟩ = some (.int .i64 v.epoch) := HX143.out.cell 0
      have c146 : wv140.cell? ⟨g106, 1, none⟩ = some (.int .i64 v.per) := HX143.out.cell 1
      go_wp2_with fail
      refine (greedy_ok v ws aw kw cw b _ HV.out hb1 hb6 (by omega) (by omega) HLW.out HWO.out (HR144.out) hful).mono ?_
      rintro e wv147 ⟨lg, ag, ng, cg, rfl, hlg, hg1, hg2, hrg, hb148⟩
      clear c145 c146
      have HB149 : Hid (Below w.heap.size w wv147) := Lib.hid (HB142.out.trans (hb148.mono HB142.out.size))
      have HX150 := Lib.hid (HX143.out.below hb148)
      have HR151 := Lib.hid (HR144.out.below hb148)
      have HR152 := Lib.hid (HRF.out.below hb148)
      clear hb148
      have HLG := Lib.hid hlg
      have HRG := Lib.hid hrg
      have hle := few_le hb1 hful HFW.out hg1 hg2
      rw [HLF.out] at hle
      have dle : decide ((ng : Int) < (kf : Int)) = false := decide_eq_false (by omega)
      have dlen : decide (ng < kf) = false := decide_eq_false (by omega)
      have HGR : Hid (risF kw 0 lg) := Lib.hid (by rw [show (shM v b ws).length = kw by simp [shM, HLW.out]] at hg1; exact hg1)
      have hng : ng ≤ 7 := (Classical.em (lg = [])).elim (fun h0 => by rw [h0, List.length_nil] at hlg; omega) (fun h0 => by have h1 := risF_len HGR.out h0; omega)
      clear hlg hg1 hg2 hrg hle
      go_wp2_with fail
      refine (a2Rises_any lf af kf cf kw _ (by omega) (by omega) HLF.out HFR.out (HR152.out)).mono ?_
      rintro e wv153 ⟨rfl, hb154⟩
      have HB155 : Hid (Below w.heap.size w wv153) := Lib.hid (HB149.out.trans (hb154.mono HB149.out.size))
      have HX156 := Lib.hid (HX150.out.below hb154)
      have HR157 := Lib.hid (HR151.out.below hb154)
      have HR158 := Lib.hid (HR152.out.below hb154)
      have HR159 := Lib.hid (HRG.out.below hb154)
      clear hb154
      go_wp2_with fail
      refine (a2Rises_any lg ag ng cg kw _ (by omega) (by omega) HLG.out HGR.out (HR159.out)).mono ?_
      rintro e wv160 ⟨rfl, hb161⟩
      have HB162 : Hid (Below w.heap.size w wv160) := Lib.hid (HB155.out.trans (hb161.mono HB155.out.size))
      have HX163 := Lib.hid (HX156.out.below hb161)
      have HR164 := Lib.hid (HR157.out.below hb161)
      have HR165 := Lib.hid (HR158.out.below hb161)
      have HR166 := Lib.hid (HR159.out.below hb161)
      clear hb161
      go_wp2_with fail
      go_loopw [14] (fun i wr => ∃ (kq : Nat), kq ≤ kf + 1 ∧ i = .int .i64 ((kq : Int) - 1) ∧ Hid (Rd Win.enc 2 wr aw ws) ∧ Hid (Rd eI 1 wr af lf) ∧ Hid (Rd eI 1 wr ag lg) ∧ Hid (CAt wr g106 #[.int .i64 v.epoch, .int .i64 v.per] 25) ∧ Hid (Below w.heap.size w wr)) (fun i _ => kf + 1 - ((intOf i) + 1).toNat)
      case atStart => exact ⟨0, Nat.zero_le _, by go_num, HR164, HR165, HR166, HX163, HB162⟩
      case round =>
        obtain ⟨kq, hkq, rfl, HRk167, HRk168, HRk169, HXk170, HBk⟩ := hrel
        obtain ⟨wr171, hwr⟩ : ∃ wx, wx = wr := ⟨_, rfl⟩
        subst hwr
        have HB172 := HBk
        clear HBk
        by_cases hltq : (kq : Int) - 1 < (kf : Int)
        · have hbx177 : g106 < wr171.heap.size := HXk170.out.lt
          have HO173 := Ow.built Win.enc 2 wr171 35
          have hb176 := below_built wr171 35
          obtain ⟨wv174, HW175⟩ : ∃ wx, (wr171.alloc (.cells #[] 35)) = wx := ⟨_, rfl⟩
          rw [HW175] at HO173 hb176
          have HO173_ := Lib.hid HO173
          clear HO173
          have HO173 := HO173_
          clear HO173_
          have HW175_ := Lib.hid HW175
          clear HW175
          have HW175 := HW175_
          clear HW175_
          have hsz178 : wr171.heap.size ≤ wv174.heap.size := hb176.size
          have HA179 := Lib.hid hb176
          have HB180 : Hid (Below w.heap.size w wv174) := Lib.hid (HB172.out.trans (hb176.mono HB172.out.size))
          have HX181 := Lib.hid (HXk170.out.below hb176)
          have HR182 := Lib.hid (HRk167.out.below hb176)
          have HR183 := Lib.hid (HRk168.out.below hb176)
          have HR184 := Lib.hid (HRk169.out.below hb176)
          clear hb176
          go_upto_region 21 with (fail)
          rw [HW175.out]
          clear HW175
          go_wp2_with fail
          go_loopw [15, 16] (fun v15 i wr => ∃ (k : Nat) (aO : Option Addr) (cO : Nat) (mO : Nat), k ≤ kf ∧ i = .int .i64 k ∧ mO ≤ k ∧ v15 = .slice aO mO cO ∧ Hid (Ow Win.enc 2 wr wr171.heap.size 35 (.slice aO mO cO) mO (wsAt ws (rmN lf ((kq : Int) - 1) k))) ∧ wr171.heap.size ≤ wr.heap.size ∧ Hid (Rd Win.enc 2 wr aw ws) ∧ Hid (Rd eI 1 wr af lf) ∧ Hid (Rd eI 1 wr ag lg) ∧ Hid (CAt wr g106 #[.int .i64 v.epoch, .int .i64 v.per] 25) ∧ Hid (Below wr171.heap.size wr171 wr) ∧ Hid (Below w.heap.size w wr)) (fun _ i _ => kf - (intOf i).toNat)
          case atStart => exact ⟨0, _, _, 0, Nat.zero_le _, rfl, Nat.le_refl _, rfl, HO173, hsz178, HR182, HR183, HR184, HX181, HA179, HB180⟩
          case round =>
            obtain ⟨k, aO, cO, mO, hk, rfl, hmO, rfl, HOk, hszk, HRk185, HRk186, HRk187, HXk188, HAk189, HBk⟩ := hrel
            obtain ⟨wr190, hwr⟩ : ∃ wx, wx = wr := ⟨_, rfl⟩
            subst hwr
            have HB191 := HBk
            clear HBk
            by_cases hlti : k < kf
            · obtain ⟨x, hx⟩ : ∃ z, (lf)[k]? = some z := ⟨_, List.getElem?_eq_getElem (by rw [HLF.out]; omega)⟩
              have HXx := Lib.hid hx
              clear hx
              have hbx := risF_at HFR.out k x HXx.out
              have hxb0 := hbx.1
              have hxb1 := hbx.2
              clear hbx
              by_cases hc192 : (k : Int) = (kq : Int) - 1
              · have d193 : ((k : Int) != (kq : Int) - 1) = false := bne_eq_false_iff_eq.2 hc192
                have i194 : IntKind.i64.wrap ((k : Int) + 1) = (k : Int) + 1 := IntWalk.i64_in _ (by omega)
                go_wp2_with fail
                have HLS : Hid (wsAt ws (rmN lf ((kq : Int) - 1) (k + 1)) = wsAt ws (rmN lf ((kq : Int) - 1) k)) := Lib.hid (by rw [rmN_yes (by omega)])
                go_roundw
                case rel => exact ⟨k + 1, _, _, _, by omega, by go_num, by omega, rfl, Lib.hid (by rw [HLS.out]; exact HOk.out), hszk, HRk185, HRk186, HRk187, HXk188, HAk189, HB191⟩
                case measure => simp [intOf]; omega
              · have d195 : ((k : Int) != (kq : Int) - 1) = true := bne_iff_ne.2 hc192
                obtain ⟨b197, o198, hab, HC196⟩ := HRk186.out.addr1 (by rw [HLF.out]; omega) (fun _ => rfl)
                have HC196_ := Lib.hid HC196
                clear HC196
                have HC196 := HC196_
                clear HC196_
                subst hab
                have c199 : wr190.cell? ⟨b197, o198 + k, none⟩ = some (.int .i64 x) := HC196.out k x HXx.out wr190 (Below.refl _ _)
                have j200 : (0 : Int) ≤ (k : Nat) := by omega
                have j201 : ((k : Nat) : Int) < kf := by omega
                obtain ⟨x202, hx⟩ : ∃ z, (ws)[(x).toNat]? = some z := ⟨_, List.getElem?_eq_getElem (by rw [HLW.out]; omega)⟩
                have HXx202 := Lib.hid hx
                clear hx
                obtain ⟨b204, o205, hab, HC203⟩ := HRk185.out.addr (by rw [HLW.out]; omega)
                have HC203_ := Lib.hid HC203
                clear HC203
                have HC203 := HC203_
                clear HC203_
                subst hab
                have c206 : wr190.cell? ⟨b204, o205 + ((x).toNat) * 2, none⟩ = some (.int .i64 x202.frm) := HC203.out ((x).toNat) x202 HXx202.out wr190 (Below.refl _ _) 0 _ rfl
                have c207 : wr190.cell? ⟨b204, o205 + ((x).toNat) * 2 + 1, none⟩ = some (.int .i64 x202.til) := HC203.out ((x).toNat) x202 HXx202.out wr190 (Below.refl _ _) 1 _ rfl
                have j208 : (0 : Int) ≤ x := by omega
                have j209 : x < (kw : Int) := by omega
                have j210 : (x).toNat = (x).toNat := by omega
                have h63 : mO + 1 ≤ maxLen := by unfold maxLen; omega
                have hby : (mO + 1) * 16 ≤ 140737488355328 := by omega
                obtain ⟨ys217, hys⟩ : ∃ ys, wsAt ws (rmN lf ((kq : Int) - 1) k) ++ [(⟨x202.frm, x202.til⟩ : Win)] = ys := ⟨_, rfl⟩
                have HYS211 := Lib.hid hys
                clear hys
                have hsz9 : wr171.heap.size ≤ wr190.heap.size := hszk
                go_wp2_with (at_builtin; refine wpl_app Win.len (by decide) _ rfl (.tmp 114) (.tmp 122) 27 rfl 35 _ 16 rfl Try.underlying27 Try.info35 wr171.heap.size _ mO _ rfl wr190 _ _ rfl HOk.out (⟨x202.frm, x202.til⟩) rfl rfl (Win.one _) h63 hby hsz9 ys217 HYS211 ?_)
                intro a215 c216 wv214 ho9 hb9 hs9
                have HO212 := Lib.hid ho9
                have HB213 : Hid (Below w.heap.size w wv214) := Lib.hid (HB191.out.trans (hb9.mono HB172.out.size))
                have hsz218 : wr171.heap.size ≤ wv214.heap.size := Nat.le_trans hszk (Nat.le_of_lt hs9)
                clear c199 j200 j201 c206 c207 j208 j209 j210
                have HA219 := Lib.hid (HAk189.out.trans hb9)
                have HR220 := Lib.hid (HRk167.out.below HA219.out)
                have HR221 := Lib.hid (HRk168.out.below HA219.out)
                have HR222 := Lib.hid (HRk169.out.below HA219.out)
                have HX223 := Lib.hid (HXk188.out.belowN hb9 hbx177)
                clear ho9 hb9 h63 hby hsz9 hs9
                have i224 : IntKind.i64.wrap ((k : Int) + 1) = (k : Int) + 1 := IntWalk.i64_in _ (by omega)
                go_wp2_with fail
                have HLS : Hid (wsAt ws (rmN lf ((kq : Int) - 1) (k + 1)) = ys217) := Lib.hid (by rw [rmN_no (by omega) HXx.out, wsAt_snoc ws _ HXx202.out, ← HYS211.out])
                go_roundw
                case rel => exact ⟨k + 1, _, _, _, by omega, by go_num, by omega, rfl, Lib.hid (by rw [HLS.out]; exact HO212.out), hsz218, HR220, HR221, HR222, HX223, HA219, HB213⟩
                case measure => simp [intOf]; omega
            · have hkn : kf = k := by omega
              subst hkn
              have hsk := few_skip HV.out HWO.out hb1 (by omega) hful HFW.out (s := (kq : Int) - 1) (by omega) (by have := HLF.out; omega)
              rw [HLF.out] at hsk
              have HSK := Lib.hid hsk
              clear hsk
              have HSL := Lib.hid (HOk.out.len Win.len (by decide))
              by_cases hneg : (kq : Int) - 1 < 0
              · have d227 : decide ((kq : Int) - 1 < 0) = true := decide_eq_true hneg
                have c228 : wr190.cell? ⟨g106, 0, none⟩ = some (.int .i64 v.epoch) := HXk188.out.cell 0
                have c229 : wr190.cell? ⟨g106, 1, none⟩ = some (.int .i64 v.per) := HXk188.out.cell 1
                go_wp2_with fail
                refine (specMissing_any v (wsAt ws (rmN lf ((kq : Int) - 1) kf)) aO mO cO b _ HV.out hb1 (by omega) (by omega) (by omega) HSL.out HSK.out.1 (HOk.out.rd Win.len (by decide))).mono ?_
                rintro e wv230 ⟨al, nl, cl, rfl, hll, hrl, hb231⟩
                clear c228 c229
                have HB232 : Hid (Below w.heap.size w wv230) := Lib.hid (HB191.out.trans (hb231.mono HB191.out.size))
                have HX233 := Lib.hid (HXk188.out.below hb231)
                have HO234 := Lib.hid (HOk.out.below hb231)
                have HA235 := Lib.hid (HAk189.out.trans (hb231.mono hszk))
                have hsz236 : wr171.heap.size ≤ wv230.heap.size := Nat.le_trans hszk (hb231).size
                have HR237 := Lib.hid (HRk185.out.below hb231)
                have HR238 := Lib.hid (HRk186.out.below hb231)
                have HR239 := Lib.hid (HRk187.out.below hb231)
                clear hb231
                have dl : ((nl : Int) == 0) = true := by rw [beq_iff_eq]; have h1 := HSK.out.2.2 hneg; omega
                clear hll hrl
                have i240 : IntKind.i64.wrap (((kq : Int) - 1) + 1) = ((kq : Int) - 1) + 1 := IntWalk.i64_in _ (by omega)
                go_wp2_with fail
                go_roundw
                case rel => exact ⟨kq + 1, by omega, by go_num, HR237, HR238, HR239, HX233, HB232⟩
                case measure => simp [intOf]; omega
              · have d241 : decide ((kq : Int) - 1 < 0) = false := decide_eq_false hneg
                have c242 : wr190.cell? ⟨g106, 0, none⟩ = some (.int .i64 v.epoch) := HXk188.out.cell 0
                have c243 : wr190.cell? ⟨g106, 1, none⟩ = some (.int .i64 v.per) := HXk188.out.cell 1
                go_wp2_with fail
                refine (specMissing_any v (wsAt ws (rmN lf ((kq : Int) - 1) kf)) aO mO cO b _ HV.out hb1 (by omega) (by omega) (by omega) HSL.out HSK.out.1 (HOk.out.rd Win.len (by decide))).mono ?_
                rintro e wv244 ⟨al, nl, cl, rfl, hll, hrl, hb245⟩
                clear c242 c243
                have HB246 : Hid (Below w.heap.size w wv244) := Lib.hid (HB191.out.trans (hb245.mono HB191.out.size))
                have HX247 := Lib.hid (HXk188.out.below hb245)
                have HO248 := Lib.hid (HOk.out.below hb245)
                have HA249 := Lib.hid (HAk189.out.trans (hb245.mono hszk))
                have hsz250 : wr171.heap.size ≤ wv244.heap.size := Nat.le_trans hszk (hb245).size
                have HR251 := Lib.hid (HRk185.out.below hb245)
                have HR252 := Lib.hid (HRk186.out.below hb245)
                have HR253 := Lib.hid (HRk187.out.below hb245)
                clear hb245
                have dl : ((nl : Int) == 0) = false := by rw [beq_eq_false_iff_ne]; intro h0; have h1 := HSK.out.2.1 (by omega); omega
                clear hll hrl
                have i254 : IntKind.i64.wrap (((kq : Int) - 1) + 1) = ((kq : Int) - 1) + 1 := IntWalk.i64_in _ (by omega)
                go_wp2_with fail
                go_roundw
                case rel => exact ⟨kq + 1, by omega, by go_num, HR251, HR252, HR253, HX247, HB246⟩
                case measure => simp [intOf]; omega
        · go_wp2_with fail
          go_ret
          exact ⟨rfl, HB172.out⟩
    · have d255 : decide (orN (shM v b ws) = 2 ^ b - 1) = false := decide_eq_false hful
      have i256 : IntKind.i64.wrap (1 + z116) = (b : Int) := (IntWalk.i64_in _ (by omega)).trans HBZ.out
      have c257 : wv112.cell? ⟨g106, 0, none⟩ = some (.int .i64 v.epoch) := HX115.out.cell 0
      have c258 : wv112.cell? ⟨g106, 1, none⟩ = some (.int .i64 v.per) := HX115.out.cell 1
      go_wp2_with fail
      refine (implMissing_any v ws aw kw cw b _ HV.out hb1 (by omega) (by omega) (by omega) HLW.out HWO.out (HRW.out)).mono ?_
      rintro e wv259 ⟨am, nm, cm, rfl, hlm, hrm, hb260⟩
      clear i256 c257 c258
      have HB261 : Hid (Below w.heap.size w wv259) := Lib.hid (HB114.out.trans (hb260.mono HB114.out.size))
      have HX262 := Lib.hid (HX115.out.below hb260)
      have HR263 := Lib.hid (HRW.out.below hb260)
      clear hb260
      have dm : ((nm : Int) == 0) = false := by rw [beq_eq_false_iff_ne]; intro h0; exact hful ((imp_iff (v := v) (ws := ws) hb1).1 (List.eq_nil_of_length_eq_zero (by omega)))
      clear hlm hrm
      have c264 : wv259.cell? ⟨g106, 0, none⟩ = some (.int .i64 v.epoch) := HX262.out.cell 0
      have c265 : wv259.cell? ⟨g106, 1, none⟩ = some (.int .i64 v.per) := HX262.out.cell 1
      go_wp2_with fail
      refine (few_bad v ws aw kw cw b _ HV.out hb1 (by omega) (by omega) (by omega) HLW.out HWO.out (HR263.out) hful).mono ?_
      rintro e wv266 ⟨rfl, hb267⟩
      clear c264 c265
      have HB268 : Hid (Below w.heap.size w wv266) := Lib.hid (HB261.out.trans (hb267.mono HB261.out.size))
      have HX269 := Lib.hid (HX262.out.below hb267)
      have HR270 := Lib.hid (HR263.out.below hb267)
      clear hb267
      have c271 : wv266.cell? ⟨g106, 0, none⟩ = some (.int .i64 v.epoch) := HX269.out.cell 0
      have c272 : wv266.cell? ⟨g106, 1, none⟩ = some (.int .i64 v.per) := HX269.out.cell 1
      go_wp2_with fail
      refine (greedy_bad v ws aw kw cw b _ HV.out hb1 hb6 (by omega) (by omega) HLW.out HWO.out (HR270.out) hful).mono ?_
      rintro e wv273 ⟨rfl, hb274⟩
      clear c271 c272
      have HB275 : Hid (Below w.heap.size w wv273) := Lib.hid (HB268.out.trans (hb274.mono HB268.out.size))
      have HX276 := Lib.hid (HX269.out.below hb274)
      have HR277 := Lib.hid (HR270.out.below hb274)
      clear hb274
      go_wp2_with fail
      go_ret
      exact ⟨rfl, HB275.out⟩

open Go.ChangeShapes Go.WideShapes Go.ChangeAt Go.RowKit
open Go.ChangeMaps (open_string shut_string)
set_option linter.unusedVariables false

theorem own : ownKnob Try.prog.godebug = none := by kernel_rfl
theorem laidOut : laidOutB Try.prog = true := by kernel_rfl

set_option maxRecDepth 100000 in
theorem lifted (os : Os) (started : os.Started) (H : Type) (enc : TypeId × Value → H) :
    ReturnsInHanded {} Try.checked os 3 .any (Rows.fnNightsSpec.pre6 enc Try.prog Try.f3 Rows.fnNightsRow.domain false) (Rows.fnNightsSpec.post enc Try.prog Try.f3 false true false false) := by
  refine returnsInHanded_of_change (C := Try.checked) own started (by kernel_rfl) Try.func3
    (ChangeSpec.witness6 (enc := enc) (C := Try.checked) false ⟨#[], #[.slice none 0 0, .slice none 0 0], []⟩ 8 (by kernel_rfl) (by kernel_rfl) (by kernel_rfl) (by kernel_rfl)) ?_
  intro W base args ds gs before hval0 hW hcnd _
  have hval : ∀ (j : Nat) t v, Try.f3.params[j]? = some t → args[j]? = some v → Value.okWide Try.prog W .any base t v := hval0
  have hW' := hW
  obtain ⟨p, q, hA0, hV, rfl, hfz, hnd⟩ := hW
  have hA : DataW.TrodAll enc Try.prog W 0 (fun _ => true) true Try.f3.params.toList args.toList ds p := hA0
  rw [Try.params3] at hA hval
  obtain ⟨v0, vs0, d0, ds0, p0, q0, hargs, rfl, rfl, h0, r0⟩ := trodAll_cons hA
  obtain ⟨v1, vs1, d1, ds1, p1, q1, rfl, rfl, rfl, h1, r1⟩ := trodAll_cons r0
  obtain ⟨rfl, rfl, rfl⟩ := trodAll_nil r1
  obtain rfl : args = #[v0, v1] := by cases args; simp_all
  obtain ⟨rfl, rfl⟩ := trodVars_none hV
  obtain ⟨a0, n0, c0, rfl⟩ := okWide_slice Try.underlying22 (hval 0 22 v0 rfl rfl)
  have k0 := h0
  have lt0 : ∀ x ∈ p0, x.block < W.heap.size := by obtain ⟨m, hm⟩ := k0; exact DataW.trod_lt m _ _ _ hm
  obtain ⟨x0, l0, m0, o0, w0⟩ := open_bytes h0
  obtain ⟨a1, n1, c1, rfl⟩ := okWide_slice Try.underlying22 (hval 1 22 v1 rfl rfl)
  have k1 := h1
  have lt1 : ∀ x ∈ p1, x.block < W.heap.size := by obtain ⟨m, hm⟩ := k1; exact DataW.trod_lt m _ _ _ hm
  obtain ⟨x1, l1, m1, o1, w1⟩ := open_bytes h1
  clear hA0 hval0
  refine (law_walk a0 n0 c0 x0 a1 n1 c1 x1 W l0 m0 o0 w0 l1 m1 o1 w1).mono fun e W' ⟨he, bel⟩ => ?_
  subst he
  exact ⟨_, rfl, _, _, _, [], _, [], hW', trodAll_mk1 (shut_bool Try.underlying4 _), (trodAll_cons_mk (Below.trod laidOut (by kernel_rfl) (of_decide_eq_true (by kernel_rfl)) k0 bel lt0) (trodAll_cons_mk (Below.trod laidOut (by kernel_rfl) (of_decide_eq_true (by kernel_rfl)) k1 bel lt1) trodAll_mk0)), rfl, bel.frame _, fun h => by cases h⟩

theorem over : Rows.fnNightsRow.holds Try.pinned (OpenSpec.ofChange Rows.fnNightsSpec) :=
  OpenClaim.holds_of_wide 3 Try.f3 rfl rfl rfl rfl rfl rfl rfl ⟨rfl, rfl, rfl, rfl, rfl⟩ rfl rfl rfl rfl rfl (by kernel_rfl) Try.func3 (by kernel_rfl)
    (of_decide_eq_true (by kernel_rfl)) (by unfold Func.isWrapper; first | (rw [if_pos (by decide +kernel)]; kernel_rfl) | (rw [if_neg (by decide +kernel)]; exact ⟨rfl, rfl⟩))
    (fun os started H enc _ => lifted os started H enc)

/-- the statement -/
theorem proved : Rows.FnNightsSaid := over
#print axioms proved
end fnNights
end Go.Proofs.Ytloggipjmaiegaa
