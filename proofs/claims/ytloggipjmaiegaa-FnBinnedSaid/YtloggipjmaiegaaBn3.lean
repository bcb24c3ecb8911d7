/-
  Running medians, smooth light curves, outliers.
-/
import Derived.Test.YtloggipjmaiegaaBn2
import Derived.Test.YtloggipjmaiegaaMd4
import Derived.Test.YtloggipjmaiegaaWhere
import Derived.Deep.RegionHeld3
namespace Go.Proofs.Ytloggipjmaiegaa
open Go.RowKit
set_option maxRecDepth 100000
set_option linter.unusedVariables false
set_option linter.unusedSimpArgs false
theorem Rd.partP {w : World} {b o : Nat} {ps : List Pt} (h : Rd Pt.enc 2 w (some ⟨b, o, none⟩) ps) (lo hi : Nat) : Rd Pt.enc 2 w (some ⟨b, o + lo * 2, none⟩) (partL ps lo hi) := fun i x hx => by
  have hi1 := (List.getElem?_eq_some_iff.1 hx).1
  have h2 : (partL ps lo hi).length ≤ hi - lo := by simp [partL]; omega
  have h3 : i < hi - lo := by omega
  rw [partL_at h3] at hx
  obtain ⟨b', o', he, hlt, hc⟩ := h (lo + i) x hx
  cases he
  exact ⟨b, o + lo * 2, rfl, hlt, fun j u hu => by have := hc j u hu; rw [show o + lo * 2 + i * 2 + j = o + (lo + i) * 2 + j by omega]; exact this⟩
set_option maxHeartbeats 2000000 in
theorem runMed_any (ps : List Pt) (a : Option Addr) (n c : Nat) (w : World) (hok : Pt.allOk ps = true) (i s : Nat) (hi : i < n) (hs : s ≤ 10) (hcap : n ≤ c) (hl : ps.length = n) (hr : Rd Pt.enc 2 w a ps) : Calls Try.prog 208 #[.slice a n c, .int .i64 (i : Int), .int .i64 (s : Int)] w fun e w' => e = .returned (.int .i64 (rmI s ps i)) ∧ Below w.heap.size w w' := by
  have hcg := CvG.of hok
  have HCG := Lib.hid hcg.1
  have hn100 : n ≤ 100 := by rw [← hl]; exact hcg.2
  have HOK := Lib.hid hok
  have HL := Lib.hid hl
  have HR := Lib.hid hr
  clear hcg hok hl hr
  obtain ⟨lo, hlo⟩ : ∃ z, i - s = z := ⟨_, rfl⟩
  have hi0 := hi; clear hi; obtain ⟨hi, hhi⟩ : ∃ z, min (i + s + 1) n = z := ⟨_, rfl⟩
  obtain ⟨m, hmm⟩ : ∃ z, hi - lo = z := ⟨_, rfl⟩
  have hlo1 : lo ≤ i := by omega
  have hhi1 : hi ≤ n := by omega
  have hhi2 : i < hi := by omega
  have HLO : Hid (max ((i : Int) - (s : Int)) 0 = (lo : Int)) := Lib.hid (by omega)
  have HHI : Hid (min ((i : Int) + (s : Int) + 1) (n : Int) = (hi : Int)) := Lib.hid (by omega)
  have HRM0 : Hid (rmI s ps i = medI (mgL (partL ps lo hi))) := Lib.hid (by unfold rmI; rw [HL.out, hlo, hhi])
  have HLP : Hid ((partL ps lo hi).length = m) := Lib.hid (by rw [← hmm]; exact partL_len (by rw [HL.out]; exact hhi1))
  have HPB : Hid (∀ x ∈ partL ps lo hi, -2000 ≤ x.mag ∧ x.mag ≤ 20000) := Lib.hid (fun x hx => by obtain ⟨j, _, _, h3⟩ := partL_mem hx; exact (HCG.out.2 x (List.mem_of_getElem? h3)).2)
  have HMB : Hid (∀ x ∈ mgL (partL ps lo hi), -1000000000 ≤ x ∧ x ≤ 1000000000) := Lib.hid (fun x hx => by have := mgL_in HPB.out x hx; omega)
  have HTK : Hid (∀ k, k = m → mgL ((partL ps lo hi).take k) = mgL (partL ps lo hi)) := Lib.hid (fun k hk => by rw [List.take_of_length_le (by rw [HLP.out]; omega)])
  have hm1 : 1 ≤ m := by omega
  have hm2 : m ≤ n := by omega
  have HMM := Lib.hid hmm
  clear hlo hhi hmm
  go_enter Try.func208, Try.ntmps208
  have HO1 := Ow.built eI 1 w 2
  have hb4 := below_built w 2
  obtain ⟨wv2, HW3⟩ : ∃ wx, (w.alloc (.cells #[] 2)) = wx := ⟨_, rfl⟩
  rw [HW3] at HO1 hb4
  have HO1_ := Lib.hid HO1
  clear HO1
  have HO1 := HO1_
  clear HO1_
  have HW3_ := Lib.hid HW3
  clear HW3
  have HW3 := HW3_
  clear HW3_
  have hsz5 : w.heap.size ≤ wv2.heap.size := hb4.size
  have HB6 : Hid (Below w.heap.size w wv2) := Lib.hid hb4
  clear hb4
  go_upto_region 2 with (fail)
  rw [HW3.out]
  clear HW3
  have i7 : IntKind.i64.wrap ((i : Int) - (s : Int)) = (i : Int) - (s : Int) := IntWalk.i64_in _ (by omega)
  have i8 : max ((i : Int) - (s : Int)) 0 = (lo : Int) := HLO.out
  have i9 : IntKind.i64.wrap ((i : Int) + (s : Int)) = (i : Int) + (s : Int) := IntWalk.i64_in _ (by omega)
  have i10 : IntKind.i64.wrap (((i : Int) + (s : Int)) + 1) = ((i : Int) + (s : Int)) + 1 := IntWalk.i64_in _ (by omega)
  have i11 : min (((i : Int) + (s : Int)) + 1) (n : Int) = (hi : Int) := HHI.out
  obtain ⟨b12, o13, hab, HC14⟩ := HR.out.addr (by rw [HL.out]; omega)
  have HC14_ := Lib.hid HC14
  clear HC14
  have HC14 := HC14_
  clear HC14_
  subst hab
  have j15 : (0 : Int) ≤ (lo : Nat) := by omega
  have j16 : ((lo : Nat) : Int) ≤ (hi : Nat) := by omega
  have j17 : ((hi : Nat) : Int) ≤ (c : Nat) := by omega
  have j18 : hi ≤ c := by omega
  have j19 : lo ≤ hi := by omega
  have j20 : lo ≤ c := by omega
  have j21 : ¬ (c : Int) = (lo : Int) := by omega
  have j22 : ¬ c = lo := by omega
  have j23 : ((lo : Nat) : Int) ≤ (c : Nat) := by omega
  have j24 : (0 : Int) ≤ (hi : Nat) := by omega
  have j25 : hi - lo = m := HMM.out
  have HRP := Lib.hid (HR.out.partP lo hi)
  go_wp2_with fail
  go_loopw [7, 25] (fun v7 i wr => ∃ (k : Nat) (aO : Option Addr) (cO : Nat), k ≤ m ∧ i = .int .i64 k ∧ v7 = .slice aO k cO ∧ Hid (Ow eI 1 wr w.heap.size 2 (.slice aO k cO) k (mgL ((partL ps lo hi).take k))) ∧ w.heap.size ≤ wr.heap.size ∧ Hid (Below w.heap.size w wr)) (fun _ i _ => m - (intOf i).toNat)
  case atStart => exact ⟨0, _, _, Nat.zero_le _, rfl, rfl, HO1, hsz5, HB6⟩
  case round =>
    obtain ⟨k, aO, cO, hk, rfl, rfl, HOk, hszk, HBk⟩ := hrel
    obtain ⟨wr26, hwr⟩ : ∃ wx, wx = wr := ⟨_, rfl⟩
    subst hwr
    have HB27 := HBk
    clear HBk
    by_cases hlt : k < m
    · obtain ⟨x, hx⟩ : ∃ z, (partL ps lo hi)[k]? = some z := ⟨_, List.getElem?_eq_getElem (by rw [HLP.out]; omega)⟩
      have HXx := Lib.hid hx
      clear hx
      have hpx := HPB.out x (List.mem_of_getElem? HXx.out)
      have hpx1 := hpx.1
      have hpx2 := hpx.2
      clear hpx
      obtain ⟨b29, o30, hab, HC28⟩ := HRP.out.addr (by rw [HLP.out]; omega)
      have HC28_ := Lib.hid HC28
      clear HC28
      have HC28 := HC28_
      clear HC28_
      cases hab
      have c31 : wr26.cell? ⟨b12, o13 + lo * 2 + k * 2, none⟩ = some (.int .i64 x.time) := HC28.out k x HXx.out wr26 HB27.out 0 _ rfl
      have c32 : wr26.cell? ⟨b12, o13 + lo * 2 + k * 2 + 1, none⟩ = some (.int .i64 x.mag) := HC28.out k x HXx.out wr26 HB27.out 1 _ rfl
      have j33 : (0 : Int) ≤ (k : Nat) := by omega
      have j34 : ((k : Nat) : Int) < m := by omega
      have HX35 := CAt.new wr26 #[.int .i64 x.time, .int .i64 x.mag] 42
      have hb36 := (Below.refl wr26.heap.size wr26).alloc (Nat.le_refl _) (.cells #[.int .i64 x.time, .int .i64 x.mag] 42)
      obtain ⟨wv38, HW39⟩ : ∃ wx, wr26.alloc (.cells #[.int .i64 x.time, .int .i64 x.mag] 42) = wx := ⟨_, rfl⟩
      obtain ⟨g37, HG40⟩ : ∃ gx, wr26.heap.size = gx := ⟨_, rfl⟩
      rw [HW39] at HX35 hb36
      rw [HG40] at HX35
      have hge41 : w.heap.size ≤ g37 := by rw [← HG40]; exact HB27.out.size
      have HX35_ := Lib.hid HX35
      clear HX35
      have HX35 := HX35_
      clear HX35_
      have HW39_ := Lib.hid HW39
      clear HW39
      have HW39 := HW39_
      clear HW39_
      have HG40_ := Lib.hid HG40
      clear HG40
      have HG40 := HG40_
      clear HG40_
      have HB42 : Hid (Below w.heap.size w wv38) := Lib.hid (HB27.out.trans (hb36.mono HB27.out.size))
      have HO43 := Lib.hid (HOk.out.below hb36)
      have hsz44 : w.heap.size ≤ wv38.heap.size := Nat.le_trans hszk (hb36).size
      clear hb36
      go_upto_region 5 with (fail)
      rw [HW39.out]
      rw [HG40.out]
      clear c31 c32 j33 j34
      have c46 : wv38.cell? ⟨g37, 0, none⟩ = some (.int .i64 x.time) := HX35.out.cell 0
      have c47 : wv38.cell? ⟨g37, 1, none⟩ = some (.int .i64 x.mag) := HX35.out.cell 1
      have h63 : k + 1 ≤ maxLen := by unfold maxLen; omega
      have hby : (k + 1) * 8 ≤ 140737488355328 := by omega
      obtain ⟨ys54, hys⟩ : ∃ ys, mgL ((partL ps lo hi).take k) ++ [(x.mag : Int)] = ys := ⟨_, rfl⟩
      have HYS48 := Lib.hid hys
      clear hys
      have hsz9 : w.heap.size ≤ wv38.heap.size := hsz44
      go_wp2_with (at_builtin; refine wpl_app eI_len (by decide) _ rfl (.tmp 29) (.tmp 32) 30 rfl 2 _ 8 rfl Try.underlying30 infoI w.heap.size _ k _ rfl wv38 _ _ rfl HO43.out (x.mag) rfl rfl (eI_one _) h63 hby hsz9 ys54 HYS48 ?_)
      intro a52 c53 wv51 ho9 hb9 hs9
      have HO49 := Lib.hid ho9
      have HB50 : Hid (Below w.heap.size w wv51) := Lib.hid (HB42.out.trans (hb9.mono (Nat.le_refl _)))
      have hsz55 : w.heap.size ≤ wv51.heap.size := Nat.le_trans hsz44 (Nat.le_of_lt hs9)
      clear c46 c47
      clear ho9 hb9 h63 hby hsz9 hs9
      have i56 : IntKind.i64.wrap ((k : Int) + 1) = (k : Int) + 1 := IntWalk.i64_in _ (by omega)
      go_wp2_with fail
      have HLS : Hid (mgL ((partL ps lo hi).take (k + 1)) = ys54) := Lib.hid (by rw [mgL_take HXx.out, HYS48.out])
      go_roundw
      case rel => exact ⟨k + 1, _, _, by omega, by go_num, rfl, Lib.hid (by rw [HLS.out]; exact HO49.out), hsz55, HB50⟩
      case measure => simp [intOf]; omega
    · have hkn : k = m := by omega
      have HKN := Lib.hid hkn
      clear hkn
      go_wp2_with fail
      refine (median_any (mgL (partL ps lo hi)) aO k cO _ (by omega) (by omega) (HMB.out) (by rw [mgL_len]; exact HLP.out.trans HKN.out.symm) (by rw [← HTK.out k HKN.out]; exact HOk.out.rd eI_len (by decide))).mono ?_
      rintro e wv57 ⟨rfl, hb58⟩
      have HB59 : Hid (Below w.heap.size w wv57) := Lib.hid (HB27.out.trans (hb58.mono HB27.out.size))
      have HO60 := Lib.hid (HOk.out.below hb58)
      have hsz61 : w.heap.size ≤ wv57.heap.size := Nat.le_trans hszk (hb58).size
      clear hb58
      go_wp2_with fail
      go_ret
      exact ⟨by rw [HRM0.out]; rfl, HB59.out⟩
end Go.Proofs.Ytloggipjmaiegaa
