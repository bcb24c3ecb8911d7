/-
  Smooth light curves, outliers.
-/
import Derived.Test.YtloggipjmaiegaaBn3
import Derived.Test.YtloggipjmaiegaaAppL
import Derived.Test.YtloggipjmaiegaaBx
namespace Go.Proofs.Ytloggipjmaiegaa
open Go.RowKit
set_option maxRecDepth 100000
set_option linter.unusedVariables false
set_option linter.unusedSimpArgs false
theorem infoPt : (Try.prog.info? 42).map (fun i => (i.zero, i.size, i.bytes)) = some (some (.agg #[.int .i64 0, .int .i64 0]), 2, 16) := by kernel_rfl
theorem cell_other {w w' : World} {b j : Nat} {v : Value} (h : w'.heap[b]? = w.heap[b]?) (hc : w.cell? ⟨b, j, none⟩ = some v) : w'.cell? ⟨b, j, none⟩ = some v := by
  have := hc
  simp only [World.cell?, h] at this ⊢
  exact this
set_option maxHeartbeats 2000000 in
theorem Smooth_any (ps : List Pt) (a : Option Addr) (n c : Nat) (w : World) (hok : Pt.allOk ps = true) (s : Nat) (hs : s ≤ 10) (hcap : n ≤ c) (hl : ps.length = n) (hr : Rd Pt.enc 2 w a ps) : Calls Try.prog 90 #[.slice a n c, .int .i64 (s : Int)] w fun e w' => ∃ (a' : Option Addr) (c' : Nat), e = .returned (.tuple #[.slice a' n c', .int .i64 0]) ∧ Ow Pt.enc 2 w' w.heap.size 42 (.slice a' n c') n (smL s ps n) ∧ Below w.heap.size w w' := by
  have hcg := CvG.of hok
  have HCG := Lib.hid hcg.1
  have hn100 : n ≤ 100 := by rw [← hl]; exact hcg.2
  have HOK := Lib.hid hok
  have HL := Lib.hid hl
  have HR := Lib.hid hr
  clear hcg hok hl hr
  have HIN : Hid (inB (s : Int) 0 10 = true) := Lib.hid (inB_iff.2 (by omega))
  go_enter Try.func90, Try.ntmps90
  go_wp2_with fail
  refine (ValidCurve_any ps a n c _ (by omega) HL.out (HR.out.below (Below.refl w.heap.size w))).mono ?_
  rintro e wv1 ⟨rfl, hb2⟩
  have HB3 : Hid (Below w.heap.size w wv1) := Lib.hid hb2
  clear hb2
  rw [HOK.out]
  go_wp2_with fail
  refine (in_any (s : Int) 0 10 _).mono ?_
  rintro e wz ⟨rfl, rfl⟩
  rw [HIN.out]
  have HO4 := Ow.built Pt.enc 2 wv1 42
  have hb7 := below_built wv1 42
  obtain ⟨wv5, HW6⟩ : ∃ wx, (wv1.alloc (.cells #[] 42)) = wx := ⟨_, rfl⟩
  rw [HW6] at HO4 hb7
  have HO4_ := Lib.hid HO4
  clear HO4
  have HO4 := HO4_
  clear HO4_
  have HW6_ := Lib.hid HW6
  clear HW6
  have HW6 := HW6_
  clear HW6_
  have hsz8 : wv1.heap.size ≤ wv5.heap.size := hb7.size
  have HB9 : Hid (Below w.heap.size w wv5) := Lib.hid (HB3.out.trans (hb7.mono HB3.out.size))
  clear hb7
  go_upto_region 6 with (fail)
  rw [HW6.out]
  clear HW6
  go_wp2_with fail
  go_loopw [6, 20] (fun v6 i wr => ∃ (k : Nat) (aO : Option Addr) (cO : Nat), k ≤ n ∧ i = .int .i64 k ∧ v6 = .slice aO k cO ∧ Hid (Ow Pt.enc 2 wr wv1.heap.size 42 (.slice aO k cO) k (smL s ps k)) ∧ wv1.heap.size ≤ wr.heap.size ∧ Hid (Below w.heap.size w wr)) (fun _ i _ => n - (intOf i).toNat)
  case atStart => exact ⟨0, _, _, Nat.zero_le _, rfl, rfl, HO4, hsz8, HB9⟩
  case round =>
    obtain ⟨k, aO, cO, hk, rfl, rfl, HOk, hszk, HBk⟩ := hrel
    obtain ⟨wr10, hwr⟩ : ∃ wx, wx = wr := ⟨_, rfl⟩
    subst hwr
    have HB11 := HBk
    clear HBk
    by_cases hlt : k < n
    · obtain ⟨x, hx⟩ : ∃ z, (ps)[k]? = some z := ⟨_, List.getElem?_eq_getElem (by rw [HL.out]; omega)⟩
      have HXx := Lib.hid hx
      clear hx
      have he12 := HCG.out.2 x (List.mem_of_getElem? HXx.out)
      have he12a := he12.1.1
      have he12b := he12.1.2
      have he12c := he12.2.1
      have he12d := he12.2.2
      clear he12
      have HQL : Hid (∀ q, Value.ownBlock (.slice aO k cO) = some q → q < wr10.heap.size) := Lib.hid (fun q hq => (HOk.out.lt q hq).2)
      obtain ⟨b13, o14, hab, HC15⟩ := HR.out.addr (by rw [HL.out]; omega)
      have HC15_ := Lib.hid HC15
      clear HC15
      have HC15 := HC15_
      clear HC15_
      subst hab
      have c16 : wr10.cell? ⟨b13, o14 + k * 2, none⟩ = some (.int .i64 x.time) := HC15.out k x HXx.out wr10 HB11.out 0 _ rfl
      have c17 : wr10.cell? ⟨b13, o14 + k * 2 + 1, none⟩ = some (.int .i64 x.mag) := HC15.out k x HXx.out wr10 HB11.out 1 _ rfl
      have j18 : (0 : Int) ≤ (k : Nat) := by omega
      have j19 : ((k : Nat) : Int) < n := by omega
      have HX20 := CAt.new wr10 #[.int .i64 x.time, .int .i64 x.mag] 42
      have hb21 := (Below.refl wr10.heap.size wr10).alloc (Nat.le_refl _) (.cells #[.int .i64 x.time, .int .i64 x.mag] 42)
      obtain ⟨wv23, HW24⟩ : ∃ wx, wr10.alloc (.cells #[.int .i64 x.time, .int .i64 x.mag] 42) = wx := ⟨_, rfl⟩
      obtain ⟨g22, HG25⟩ : ∃ gx, wr10.heap.size = gx := ⟨_, rfl⟩
      rw [HW24] at HX20 hb21
      rw [HG25] at HX20
      have hge26 : w.heap.size ≤ g22 := by rw [← HG25]; exact HB11.out.size
      have HX20_ := Lib.hid HX20
      clear HX20
      have HX20 := HX20_
      clear HX20_
      have HW24_ := Lib.hid HW24
      clear HW24
      have HW24 := HW24_
      clear HW24_
      have HG25_ := Lib.hid HG25
      clear HG25
      have HG25 := HG25_
      clear HG25_
      have HB27 : Hid (Below w.heap.size w wv23) := Lib.hid (HB11.out.trans (hb21.mono HB11.out.size))
      have HO28 := Lib.hid (HOk.out.below hb21)
      have hsz29 : wv1.heap.size ≤ wv23.heap.size := Nat.le_trans hszk (hb21).size
      clear hb21
      go_upto_region 9 with (fail)
      rw [HW24.out]
      rw [HG25.out]
      clear c16 c17 j18 j19
      obtain ⟨ys31, hys⟩ : ∃ ys, smL s ps k ++ [(⟨x.time, rmI s ps k⟩ : Pt)] = ys := ⟨_, rfl⟩
      have HYS32 := Lib.hid hys
      clear hys
      have h63 : k + 1 ≤ maxLen := by unfold maxLen; omega
      have hby : (k + 1) * 16 ≤ 140737488355328 := by omega
      have HCX : Hid (∀ wq, Below wv23.heap.size wv23 wq → wq.cell? ⟨g22, 0, none⟩ = some (.int .i64 x.time)) := Lib.hid fun wq hq => (HX20.out.below hq).cell 0
      have HDA : Hid (Below wv23.heap.size wv23 wv23.drew) := Lib.hid (Below.refl _ _).drew
      have HOD := Lib.hid (HO28.out.below HDA.out)
      have hgs : g22 < wv23.heap.size := HX20.out.lt
      have HNG : Hid (Value.ownBlock (.slice aO k cO) ≠ some g22) := Lib.hid (fun h9 => by have h8 := HQL.out _ h9; have h7 := HG25.out; omega)
      skip
      go_wp2_with fail
      go_region_held3 (fun wq : World => wq.cell? ⟨g22, 0, none⟩ = some (.int .i64 x.time)) (first | (go_keep; done) | exact HCX.out _ HDA.out | exact HCX.out _ HA5.out | exact HCX.out _ (HA5.out.alloc hsz5 _) | exact cell_other (hot9 g22 (by omega) HNG.out) (HCX.out _ HA5.out) | fail)
        (first
          | (go_at_call 208; (with_reducible refine (runMed_any ps (some ⟨b13, o14, none⟩) n c wv23.drew HOK.out k s hlt hs hcap HL.out (HR.out.below (HB27.out.trans (HDA.out.mono HB27.out.size)))).mono ?_); rintro e w5 ⟨rfl, hb5⟩; have HA5 : Hid (Below wv23.heap.size wv23 w5) := Lib.hid (HDA.out.trans hb5); have hsz5 : wv23.heap.size ≤ w5.heap.size := HA5.out.size; have HO5 := Lib.hid (HOD.out.below hb5); clear hb5)
          | (refine step_appL Pt.len (by decide) _ rfl (.tmp 25) (.tmp 33) 36 rfl 42 _ 16 rfl Try.underlying36 infoPt wv1.heap.size (.slice aO k cO) k _ rfl w5 _ _ rfl HO5.out (⟨x.time, rmI s ps k⟩ : Pt) rfl rfl (Pt.one _) h63 hby (Nat.le_trans hsz29 hsz5) ys31 HYS32 ?_; intro g9 c9 w9 ho9 hb9 hat9 hot9)
          | fail)
      have HO33 := Lib.hid ho9
      have HB34 : Hid (Below w.heap.size w w9) := Lib.hid ((HB27.out.trans (HA5.out.mono HB27.out.size)).trans (hb9.mono HB3.out.size))
      have hsz35 : wv1.heap.size ≤ w9.heap.size := Nat.le_trans (Nat.le_trans hsz29 hsz5) hb9.size
      clear ho9 hb9 hat9 hot9 hsz5 h63 hby hgs
      have i36 : IntKind.i64.wrap ((k : Int) + 1) = (k : Int) + 1 := IntWalk.i64_in _ (by omega)
      go_wp2_with fail
      have HLS : Hid (smL s ps (k + 1) = ys31) := Lib.hid (by rw [smL_snoc HXx.out, HYS32.out])
      go_roundw
      case rel => exact ⟨k + 1, _, _, by omega, by go_num, rfl, Lib.hid (by rw [HLS.out]; exact HO33.out), hsz35, HB34⟩
      case measure => simp [intOf]; omega
    · have hkn : k = n := by omega
      have HKN := Lib.hid hkn
      clear hkn
      go_wp2_with fail
      go_ret2
      exact ⟨_, _, by rw [← HKN.out]; rfl, by rw [← HKN.out]; exact HOk.out.mono HB3.out.size, HB11.out⟩
end Go.Proofs.Ytloggipjmaiegaa
