/-
  Magnitudes of all stars from one, and the text of a link: the program.
-/
import Derived.Test.YtnioecigjpifnaaDoorLk6
import Derived.Test.YtnioecigjpifnaaDoorLk5
import Derived.Test.YtnioecigjpifnaaDoorDec2
import Derived.Test.YtnioecigjpifnaaDoorTimes
import Derived.Test.YtnioecigjpifnaaDoorEst0
import Derived.Deep.RegionHeld3
import Derived.BigQuiet
namespace Go.Proofs.YtnioecigjpifnaaDoor
open Go.RowKit
set_option maxRecDepth 100000
set_option linter.unusedVariables false
set_option linter.unusedSimpArgs false
def magK (S : LkS) (kn k : Nat) : List Int := (List.range k).map fun (i : Nat) => 9000 + S.N.getD i 0 - S.N.getD kn 0
theorem magK_snoc (S : LkS) (kn k : Nat) : magK S kn k ++ [9000 + S.N.getD k 0 - S.N.getD kn 0] = magK S kn (k + 1) := by
  unfold magK; rw [List.range_succ, List.map_append]; rfl
theorem magK_len (S : LkS) (kn k : Nat) : (magK S kn k).length = k := by unfold magK; simp
theorem magK_at {S : LkS} {kn k i : Nat} (h : i < k) : (magK S kn k)[i]? = some (9000 + S.N.getD i 0 - S.N.getD kn 0) := by
  unfold magK; rw [List.getElem?_map, List.getElem?_range h]; rfl
theorem magK_ok {n kn : Nat} {ls : List Lnk} (h5 : n ≤ 5) (hk : kn < n) (hok : ∀ l ∈ ls, LkD2 n l) (hall : ∀ j, j < n → (lkJ n ls).F.getD j 0 = (lkJ n ls).F.getD kn 0) : ((magK (lkJ n ls) kn n).all fun x => inB x (-2000) 20000) = true := by
  rw [List.all_eq_true]
  intro x hx
  unfold magK at hx
  obtain ⟨i, hi, rfl⟩ := List.mem_map.1 hx
  rw [List.mem_range] at hi
  have a := lkJ_small (n := n) (r := ls) (fun l hl => (hok l hl).1) (fun l hl => (hok l hl).2) hi hk (hall i hi)
  have b := lkJ_small (n := n) (r := ls) (fun l hl => (hok l hl).1) (fun l hl => (hok l hl).2) hk hi (hall i hi).symm
  exact inB_iff.2 ⟨by omega, by omega⟩
theorem infoL7 : (Tryd.prog.info? 2).map (fun i => (i.zero, i.size, i.bytes)) = some (some (.int .i64 0), 1, 8) := by kernel_rfl
set_option maxHeartbeats 4000000 in
theorem mags_any (n kn : Nat) (ls : List Lnk) (a : Option Addr) (m c : Nat) (w : World) (h1 : 1 ≤ n) (h5 : n ≤ 5) (hkn : kn < n) (hm : m ≤ 12) (hl : ls.length = m) (hok : ∀ l ∈ ls, LkD2 n l) (hr : Rd Lnk.enc 3 w a ls) :
    Calls Tryd.prog 10 #[.int .i64 (n : Int), .slice a m c, .int .i64 (kn : Int), .int .i64 9000] w fun e w' => ∃ (a' : Option Addr) (k c' : Nat) (L : List Int) (cd : Int), e = .returned (.tuple #[.slice a' k c', .int .i64 cd]) ∧
      (((lkJ n ls).ok = false ∧ cd = 6) ∨ ((lkJ n ls).ok = true ∧ (∃ i, i < n ∧ (lkJ n ls).F.getD i 0 ≠ (lkJ n ls).F.getD kn 0) ∧ cd = 3) ∨ ((lkJ n ls).ok = true ∧ cd = 0 ∧ k = n ∧ L = magK (lkJ n ls) kn n)) ∧ L.length = k ∧ Rd eI 1 w' a' L ∧ Below w.heap.size w w' := by
  have HL := Lib.hid hl
  have HD := Lib.hid hok
  have HO : Hid (∀ l ∈ ls, LkOk n l) := Lib.hid fun l hl => (hok l hl).1
  have HR := Lib.hid hr
  have h10 : n ≤ 10 := by omega
  have hin : inB (kn : Int) 0 ((n : Int) - 1) = true := inB_iff.2 (by omega)
  have in1 : IntKind.i64.wrap ((n : Int) - 1) = (n : Int) - 1 := IntWalk.i64_in _ (by omega)
  have hvm : inB 9000 (-2000) 20000 = true := by decide
  clear hl hok hr
  go_enter Tryd.func10, Tryd.ntmps10
  go_wp2_with fail
  refine (validLinks_ok n ls a m c _ h1 h10 hm HL.out HO.out HR.out).mono ?_
  rintro e w1 ⟨rfl, hb1⟩
  go_wp2_with fail
  refine (in_lit _ _ _ _ _ hin).mono ?_
  rintro e wz ⟨rfl, rfl⟩
  go_wp2_with fail
  refine (ValidMag_lit _ _ _ hvm).mono ?_
  rintro e wz ⟨rfl, rfl⟩
  clear hin in1 hvm
  go_wp2_with fail
  refine (offsets_any n ls a m c _ h1 h10 hm HL.out HO.out (HR.out.below hb1)).mono ?_
  rintro e w2 ⟨g, h, rfl, hT⟩
  have HFL := Lib.hid hT.lf
  have HNL := Lib.hid hT.ln
  have HFR := Lib.hid (hT.f.rd eI_len (by decide))
  have HNR := Lib.hid (hT.s.rd eI_len (by decide))
  have HB2 := Lib.hid (hb1.trans (hT.b.mono hb1.size))
  have HLI := Lib.hid (lkJ_ok ls HO.out)
  have HM12 : Hid (ls.length ≤ 12) := Lib.hid (by rw [HL.out]; exact hm)
  have HMK := Lib.hid (fun hall => magK_ok (n := n) (kn := kn) (ls := ls) h5 hkn HD.out hall)
  obtain ⟨S, hS⟩ : ∃ S, lkJ n ls = S := ⟨_, rfl⟩
  rw [hS] at HFL HNL HFR HNR HLI HMK ⊢
  have HS := Lib.hid hS
  clear hT hb1 hS
  cases hSo : S.ok with
  | false =>
    have HSO := Lib.hid hSo
    clear hSo
    go_wp2_with fail
    go_ret2
    exact ⟨none, 0, 0, [], 6, rfl, .inl ⟨by rw [HS.out]; exact HSO.out, rfl⟩, rfl, Rd.nil _ _ _ _, HB2.out⟩
  | true =>
  have HSO := Lib.hid hSo
  clear hSo
  obtain ⟨fk, hfk⟩ : ∃ z, S.F[kn]? = some z := ⟨_, List.getElem?_eq_getElem (by rw [HFL.out]; exact hkn)⟩
  obtain ⟨nk, hnk⟩ : ∃ z, S.N[kn]? = some z := ⟨_, List.getElem?_eq_getElem (by rw [HNL.out]; exact hkn)⟩
  have HFK := Lib.hid hfk
  have HNK := Lib.hid hnk
  have hnkb := HLI.out.sm HM12.out hnk
  have HFKD : Hid (S.F.getD kn 0 = fk) := Lib.hid (by simp [List.getD, hfk])
  have HNKD : Hid (S.N.getD kn 0 = nk) := Lib.hid (by simp [List.getD, hnk])
  clear hfk hnk
  have hG := Ow.built eI 1 w2 2
  have hbA := below_built w2 2
  obtain ⟨w3, hw3⟩ : ∃ wx, w2.alloc (.cells #[] 2) = wx := ⟨_, rfl⟩
  obtain ⟨B, hB⟩ : ∃ gx, w2.heap.size = gx := ⟨_, rfl⟩
  have hB3 : B ≤ w3.heap.size := by rw [← hw3, ← hB]; simp
  rw [hw3] at hG hbA
  rw [hB] at hG
  have HG := Lib.hid hG
  have HBA := Lib.hid hbA
  have HW3 := Lib.hid hw3
  have HBB := Lib.hid hB
  clear hG hbA hw3 hB
  go_upto_region 9 with (fail)
  rw [HW3.out, HBB.out]
  clear HW3
  go_wp2_with fail
  go_loopw [13, 43] (fun ov i wr => ∃ (k : Nat) (a' : Option Addr) (c' : Nat), k ≤ n ∧ i = .int .i64 k ∧ ov = .slice a' k c' ∧ Hid (∀ j, j < k → S.F.getD j 0 = fk) ∧ Hid (Ow eI 1 wr B 2 (.slice a' k c') k (magK S kn k)) ∧ B ≤ wr.heap.size ∧ Hid (Below w2.heap.size w2 wr)) (fun _ i _ => n - (intOf i).toNat)
  case atStart => exact ⟨0, _, _, Nat.zero_le _, rfl, rfl, Lib.hid (fun j hj => by omega), HG, hB3, HBA⟩
  case round =>
  obtain ⟨k, a', c', hk, rfl, rfl, HAL, HGk, hBs, HBk⟩ := hrel
  obtain ⟨wA, hwA⟩ : ∃ wx, wx = wr := ⟨_, rfl⟩
  subst hwA
  clear HG HBA hB3
  by_cases hlt : k < n
  case neg =>
    obtain rfl : n = k := by omega
    have hlm := HGk.out.len eI_len (by decide)
    have HRm := Lib.hid (HGk.out.rd eI_len (by decide))
    have HAA := Lib.hid (HMK.out fun j hj => by rw [HAL.out j hj, HFKD.out])
    clear hlt
    go_wp2_with fail
    refine (allIn_any (magK S kn n) (-2000) 20000 a' n c' _ (by omega) hlm HRm.out).mono ?_
    rintro e w4 ⟨rfl, hb4⟩
    have HR4 := Lib.hid (HRm.out.below hb4)
    have HB4 := Lib.hid (HB2.out.trans ((HBk.out.trans (hb4.mono HBk.out.size)).mono HB2.out.size))
    rw [HAA.out]
    clear hb4
    go_wp2_with fail
    go_ret2
    exact ⟨_, _, _, magK S kn n, 0, rfl, .inr (.inr ⟨by rw [HS.out]; exact HSO.out, rfl, rfl, by rw [HS.out]⟩), hlm, HR4.out, HB4.out⟩
  obtain ⟨fx, hfx⟩ : ∃ z, S.F[k]? = some z := ⟨_, List.getElem?_eq_getElem (by rw [HFL.out]; exact hlt)⟩
  obtain ⟨nx, hnx⟩ : ∃ z, S.N[k]? = some z := ⟨_, List.getElem?_eq_getElem (by rw [HNL.out]; exact hlt)⟩
  have hnxb := HLI.out.sm HM12.out hnx
  have HFXD : Hid (S.F.getD k 0 = fx) := Lib.hid (by simp [List.getD, hfx])
  have HNXD : Hid (S.N.getD k 0 = nx) := Lib.hid (by simp [List.getD, hnx])
  have HCF : Hid (∀ wz, Below w2.heap.size w2 wz → wz.cell? ⟨g, k, none⟩ = some (.int .i64 fx) ∧ wz.cell? ⟨g, kn, none⟩ = some (.int .i64 fk) ∧ wz.cell? ⟨h, k, none⟩ = some (.int .i64 nx) ∧ wz.cell? ⟨h, kn, none⟩ = some (.int .i64 nk)) := Lib.hid fun wz hz => by
    obtain ⟨b1, o1, e1, p1⟩ := (HFR.out.below hz).at1 hfx (u := .int .i64 fx) rfl
    obtain ⟨b2, o2, e2, p2⟩ := (HFR.out.below hz).at1 HFK.out (u := .int .i64 fk) rfl
    obtain ⟨b3, o3, e3, p3⟩ := (HNR.out.below hz).at1 hnx (u := .int .i64 nx) rfl
    obtain ⟨b4, o4, e4, p4⟩ := (HNR.out.below hz).at1 HNK.out (u := .int .i64 nk) rfl
    cases e1; cases e2; cases e3; cases e4
    have p1 := p1.2
    have p2 := p2.2
    have p3 := p3.2
    have p4 := p4.2
    rw [Nat.zero_add] at p1 p2 p3 p4
    exact ⟨p1, p2, p3, p4⟩
  obtain ⟨x0, x1, _, _⟩ := HCF.out wA HBk.out
  have j0 : (0 : Int) ≤ (k : Nat) := by omega
  have j1 : ((k : Nat) : Int) < (n : Nat) := by omega
  have j2 : (0 : Int) ≤ (kn : Nat) := by omega
  have j3 : ((kn : Nat) : Int) < (n : Nat) := by omega
  clear hfx hnx
  by_cases hfe : fx = fk
  case neg =>
    have dfe : (fx != fk) = true := bne_iff_ne.2 hfe
    have HNE : Hid (S.F.getD k 0 ≠ S.F.getD kn 0) := Lib.hid (by rw [HFXD.out, HFKD.out]; exact hfe)
    clear hfe
    go_wp2_with fail
    go_quiet (fail)
    have hbq := below_drewN (Below.refl wA.heap.size wA) nq
    have HB4 := Lib.hid (HB2.out.trans ((HBk.out.trans (hbq.mono HBk.out.size)).mono HB2.out.size))
    clear hbq
    go_wp2_with fail
    go_ret2
    exact ⟨none, 0, 0, [], 3, rfl, .inr (.inl ⟨by rw [HS.out]; exact HSO.out, ⟨k, hlt, by rw [HS.out]; exact HNE.out⟩, rfl⟩), rfl, Rd.nil _ _ _ _, HB4.out⟩
  have dfe : (fx != fk) = false := bne_eq_false_iff_eq.2 hfe
  have HAL2 : Hid (∀ j, j < k + 1 → S.F.getD j 0 = fk) := Lib.hid fun j hj => by
    by_cases hjk : j = k
    · rw [hjk, HFXD.out]; exact hfe
    · exact HAL.out j (by omega)
  clear hfe HAL
  go_wp2_with fail
  go_quiet (fail)
  have hbq := below_drewN (Below.refl wA.heap.size wA) nq
  have HGq := Lib.hid (HGk.out.below hbq)
  have HBq := Lib.hid (HBk.out.trans (hbq.mono HBk.out.size))
  have hBq : B ≤ (wA.drewN nq).heap.size := Nat.le_trans hBs hbq.size
  obtain ⟨wq, hwq⟩ : ∃ wx, wA.drewN nq = wx := ⟨_, rfl⟩
  rw [hwq] at HGq HBq hBq ⊢
  clear hwq hbq x0 x1 HGk HBk hBs
  go_upto_region 14 with (fail)
  have HDw : Hid (Below wq.heap.size wq wq.drew) := Lib.hid (Below.refl _ _).drew
  have HGD := Lib.hid (HGq.out.below HDw.out)
  have HBB2 : Hid (w2.heap.size ≤ B) := Lib.hid (by rw [HBB.out]; exact Nat.le_refl _)
  have HDA : Hid (Below w2.heap.size w2 wq.drew) := Lib.hid (HBq.out.trans (HDw.out.mono HBq.out.size))
  have hszd : B ≤ wq.drew.heap.size := Nat.le_trans hBq HDw.out.size
  have hszd2 : w2.heap.size ≤ wq.drew.heap.size := HDA.out.size
  have HSc : Hid (∀ wz, Below w2.heap.size w2 wz → wz.cell? ⟨h, k, none⟩ = some (.int .i64 nx) ∧ wz.cell? ⟨h, kn, none⟩ = some (.int .i64 nk)) := Lib.hid fun wz hz => ⟨(HCF.out wz hz).2.2.1, (HCF.out wz hz).2.2.2⟩
  have i1 : IntKind.i64.wrap (9000 + nx) = 9000 + nx := IntWalk.i64_in _ (by omega)
  have i2 : IntKind.i64.wrap (9000 + nx - nk) = 9000 + nx - nk := IntWalk.i64_in _ (by omega)
  have h63 : k + 1 ≤ maxLen := by unfold maxLen; omega
  have hby : (k + 1) * 8 ≤ 140737488355328 := by omega
  have HYS : Hid (magK S kn k ++ [9000 + nx - nk] = magK S kn (k + 1)) := Lib.hid (by rw [← magK_snoc, HNXD.out, HNKD.out])
  go_wp2_with fail
  go_region_held3 (fun wz : World => wz.cell? ⟨h, k, none⟩ = some (.int .i64 nx) ∧ wz.cell? ⟨h, kn, none⟩ = some (.int .i64 nk)) (first | (go_keep; done) | exact HSc.out _ HDA.out | exact HSc.out _ HB9.out | exact HSc.out _ (HDA.out.alloc hszd2 _) | fail)
    (first
      | (refine step_app eI_len (by decide) _ rfl (.tmp 55) (.tmp 67) 30 rfl 2 _ 8 rfl Tryd.underlying30 infoL7 B _ k _ rfl wq.drew _ _ rfl HGD.out (9000 + nx - nk) rfl rfl (eI_one _) h63 hby hszd _ HYS ?_; intro a9 c9 w9 ho9 hb9 hs9; have HO9 := Lib.hid ho9; have HB9 := Lib.hid (HDA.out.trans (hb9.mono HBB2.out)); clear ho9 hb9))
  have hB9 : B ≤ w9.heap.size := by omega
  clear HSc HDA HDw hszd hszd2 h63 hby HGD i1 i2
  go_wp2_with fail
  go_roundw
  case rel => exact ⟨k + 1, a9, c9, by omega, by go_num, rfl, HAL2, HO9, hB9, HB9⟩
  case measure => simp [intOf]; omega
def lkT (l : Lnk) : ByteArray := ⟨#[115, 116, 97, 114, 32]⟩ ++ decB l.a ++ ⟨#[32, 116, 111, 32]⟩ ++ decB l.b ++ ⟨#[32, 105, 115, 32]⟩ ++ decB l.diff
theorem lkT_ne (l : Lnk) : lkT l ≠ ⟨#[]⟩ := fun h => by
  have h1 := congrArg ByteArray.size h
  unfold lkT at h1
  simp only [ByteArray.size_append'] at h1
  have e : (⟨#[115, 116, 97, 114, 32]⟩ : ByteArray).size = 5 := rfl
  have e2 : (⟨#[]⟩ : ByteArray).size = 0 := rfl
  omega
set_option maxHeartbeats 2000000 in
theorem linkText_any (n : Nat) (l : Lnk) (h10 : n ≤ 10) (h : LkOk n l) (w : World) (hT : TabOk w) : Calls Tryd.prog 8 #[.agg #[.int .i64 l.a, .int .i64 l.b, .int .i64 l.diff]] w fun e w' => e = .returned (.string (lkT l)) ∧ Below w.heap.size w w' := by
  have HT := Lib.hid hT
  have HK : Hid (LkOk 10 l) := Lib.hid ⟨h.1, h.2.1, by have := h.2.2.1; omega, h.2.2.2⟩
  obtain ⟨q0, q1, q2, q3, q4⟩ := h
  have t1 : I64 l.a := by unfold I64; omega
  have t2 : I64 l.b := by unfold I64; omega
  have t3 : I64 l.diff := by unfold I64; omega
  have z1 := decB_len _ t1
  have z2 := decB_len _ t2
  have z3 := decB_len _ t3
  have k0 : (⟨#[115, 116, 97, 114, 32]⟩ : ByteArray).size = 5 := rfl
  have k1 : (⟨#[32, 116, 111, 32]⟩ : ByteArray).size = 4 := rfl
  have k2 : (⟨#[32, 105, 115, 32]⟩ : ByteArray).size = 4 := rfl
  have hbx := (Below.refl w.heap.size w).alloc (Nat.le_refl _) (.cells #[.int .i64 l.a, .int .i64 l.b, .int .i64 l.diff] 33)
  have hCX := CAt.new w #[.int .i64 l.a, .int .i64 l.b, .int .i64 l.diff] 33
  obtain ⟨w1, hw1⟩ : ∃ wx, w.alloc (.cells #[.int .i64 l.a, .int .i64 l.b, .int .i64 l.diff] 33) = wx := ⟨_, rfl⟩
  obtain ⟨g, hg⟩ : ∃ gx, w.heap.size = gx := ⟨_, rfl⟩
  rw [hw1] at hbx hCX
  rw [hg] at hCX
  have HCX := Lib.hid hCX
  have HBX := Lib.hid hbx
  have HW1 := Lib.hid hw1
  have HG := Lib.hid hg
  clear hT hbx hCX hw1 hg
  unfold lkT
  go_enter Tryd.func8, Tryd.ntmps8
  go_upto_region 1 with (fail)
  rw [HW1.out, HG.out]
  have y0 : w1.cell? ⟨g, 0, none⟩ = some (.int .i64 l.a) := HCX.out.cell 0
  have y1 : w1.cell? ⟨g, 1, none⟩ = some (.int .i64 l.b) := HCX.out.cell 1
  have y2 : w1.cell? ⟨g, 2, none⟩ = some (.int .i64 l.diff) := HCX.out.cell 2
  clear HW1
  go_wp2_with fail
  refine (isLink_ok 10 l HK.out _).mono ?_
  rintro e w2 ⟨rfl, hb2⟩
  have HC2 := Lib.hid (HCX.out.below hb2)
  have hlt2 := HC2.out.lt
  have HB2 := Lib.hid (HBX.out.trans (hb2.mono HBX.out.size))
  clear hb2 y0 y1 y2
  have n0 := cls_cell (w0 := w2) (B := w2.heap.size) hlt2 (HC2.out.cell 0)
  have n1 := cls_cell (w0 := w2) (B := w2.heap.size) hlt2 (HC2.out.cell 1)
  have n2 := cls_cell (w0 := w2) (B := w2.heap.size) hlt2 (HC2.out.cell 2)
  have HTB : Hid (∀ u : Cls w2.heap.size w2, TabOk u.w) := Lib.hid fun u => (HT.out.below HB2.out).below u.ok
  go_upto_region 3 with (fail)
  refine wp_region_cls w2 (B := w2.heap.size) (by kernel_rfl) (by kernel_rfl) (Below.refl _ _) ?_
  repeat (go_big_quiet_step ((go_at_call 19; exact cls_call (Nat.le_refl _) (Decimal_any _ (by assumption) _ (HTB.out _)))))
  refine wpQuiet_nil ?_
  intro _ hw'
  obtain ⟨uq, hw''⟩ := hw'
  subst hw''
  have hb3 := uq.ok
  generalize uq.w = w3 at hb3
  have HB3 := Lib.hid (HB2.out.trans (hb3.mono HB2.out.size))
  clear n0 n1 n2 HTB hb3
  go_wp2_with fail
  go_ret
  exact ⟨rfl, HB3.out⟩
end Go.Proofs.YtnioecigjpifnaaDoor
