/-
  The windows of a rule: the reference.
-/
import Derived.Test.YthjpfidlpdgeaaaWs5l
import Derived.Test.YthjpfidlpdgeaaaWs2
import Derived.Deep.RegionHeld3
import Derived.BigQuiet
import Derived.BigRegion
namespace Go.Proofs.Ythjpfidlpdgeaaa
open Go.RowKit
set_option maxRecDepth 100000
set_option linter.unusedVariables false
set_option linter.unusedSimpArgs false
set_option maxHeartbeats 8000000 in
theorem l15Made_2 (A B : List Win) (a b : Option Addr) (n m c d : Nat) (w : World) (hn : n ≤ 30) (hm : m ≤ 30) (hla : A.length = n) (hlb : B.length = m) (hia : InB A) (hib : InB B) (hra : Rd Win.enc 2 w a A) (hrb : Rd Win.enc 2 w b B) :
    Calls Try.prog 40 #[.slice a n c, .slice b m d, .int .i64 2] w fun e w' => ∃ (a' : Option Addr) (k c' : Nat) (L : List Win), e = .returned (.slice a' k c') ∧ SetW L (fun t => ruleB 2 (inWB A t) (inWB B t) = true) ∧ Ow Win.enc 2 w' w.heap.size 39 (.slice a' k c') k L ∧ k ≤ 240 ∧ Below w.heap.size w w' := by
  have HLA := Lib.hid hla
  have HLB := Lib.hid hlb
  have HIA := Lib.hid hia
  have HIB := Lib.hid hib
  have HRA := Lib.hid hra
  have HRB := Lib.hid hrb
  have HB0 := Lib.hid (below_built w 2)
  have HRC0 := Lib.hid ((Ow.built eI 1 w 2).rd eI_len (by decide))
  obtain ⟨w0, hw0⟩ : ∃ z, w.alloc (.cells #[] 2) = z := ⟨_, rfl⟩
  rw [hw0] at HB0 HRC0
  have HW0 := Lib.hid hw0
  clear hla hlb hia hib hra hrb hw0
  go_enter Try.func40, Try.ntmps40
  go_wp2_with fail
  rw [HW0.out]
  clear HW0
  go_loopw [7, 8] (fun vc vi wr => ∃ (k N : Nat) (aC : Option Addr) (cC : Nat), k ≤ n ∧ N ≤ 0 + 2 * k ∧ vc = .slice aC N cC ∧ vi = .int .i64 (k : Int) ∧ Hid ((cutL [] (A.take k)).length = N) ∧ Hid (Rd eI 1 wr aC (cutL [] (A.take k))) ∧ Hid (Below w.heap.size w wr)) (fun _ vi _ => n - (intOf vi).toNat)
  case atStart => exact ⟨0, 0, _, _, Nat.zero_le _, by omega, rfl, rfl, Lib.hid rfl, HRC0, HB0⟩
  case round =>
    obtain ⟨k, N, aC, cC, hk, hN, rfl, rfl, HLC, HRC, HBk⟩ := hrel
    obtain ⟨wp, hwp⟩ : ∃ wx, wx = wr := ⟨_, rfl⟩
    subst hwp
    by_cases hlt : k < n
    · obtain ⟨x, hx⟩ : ∃ z, A[k]? = some z := ⟨_, List.getElem?_eq_getElem (by rw [HLA.out]; exact hlt)⟩
      have HXx := Lib.hid hx
      have hxb := HIA.out x (List.mem_of_getElem? hx)
      obtain ⟨bl, ofs, hab, hC⟩ := HRA.out.addr (by rw [HLA.out]; omega)
      subst hab
      have HC := Lib.hid (fun wz hz => And.intro (hC k x hx wz hz 0 _ rfl) (hC k x hx wz hz 1 _ rfl))
      clear hx hC
      have j0 : (0 : Int) ≤ (k : Nat) := by omega
      have j1 : ((k : Nat) : Int) < n := by omega
      have i1 : IntKind.i64.wrap (x.til + 1) = x.til + 1 := IntWalk.i64_in _ (by omega)
      have hbk := HBk.out
      have HS : Hid (∀ wz, Below wp.heap.size wp wz → wz.cell? ⟨bl, ofs + k * 2, none⟩ = some (.int .i64 x.frm) ∧ wz.cell? ⟨bl, ofs + k * 2 + 1, none⟩ = some (.int .i64 x.til)) := Lib.hid fun wz hz => HC.out wz (hbk.trans (hz.mono hbk.size))
      have HD0 : Hid (Below wp.heap.size wp wp.drew) := Lib.hid (Below.refl _ _).drew
      have HRd := Lib.hid (HRC.out.below HD0.out)
      have HNX := Lib.hid (cutL_take (c := []) HXx.out)
      clear hbk HC
      go_wp2_with fail
      go_region_held3 (fun wz : World => wz.cell? ⟨bl, ofs + k * 2, none⟩ = some (.int .i64 x.frm) ∧ wz.cell? ⟨bl, ofs + k * 2 + 1, none⟩ = some (.int .i64 x.til)) (first | (go_keep; done) | exact HS.out _ HD0.out | exact HS.out _ HD1.out | exact HS.out _ HD2.out | fail)
        (first
          | (go_at_call 51; (with_reducible refine (l00Put_any _ _ _ _ x.frm _ (by omega) HLC.out HRd.out).mono ?_); rintro e w5 ⟨a5, k5, c5, rfl, hk5, ho5, hb5⟩; have HD1 : Hid (Below wp.heap.size wp w5) := Lib.hid (HD0.out.trans (hb5.mono HD0.out.size)); have HL5 := Lib.hid (ho5.len eI_len (by decide)); have HR5 := Lib.hid (ho5.rd eI_len (by decide)); clear ho5 hb5)
          | (go_at_call 51; (with_reducible refine (l00Put_any _ _ _ _ (x.til + 1) _ (by omega) HL5.out HR5.out).mono ?_); rintro e w6 ⟨a6, k6, c6, rfl, hk6, ho6, hb6⟩; have HD2 : Hid (Below wp.heap.size wp w6) := Lib.hid (HD1.out.trans (hb6.mono HD1.out.size)); have HL6 := Lib.hid (ho6.len eI_len (by decide)); have HR6 := Lib.hid (ho6.rd eI_len (by decide)); clear ho6 hb6))
      have HB6 := Lib.hid (HBk.out.trans (HD2.out.mono HBk.out.size))
      clear HS HD0 HD1 HD2 HRd i1 j0 j1
      go_wp2_with fail
      go_roundw
      case rel => exact ⟨k + 1, k6, a6, c6, by omega, by omega, rfl, by go_num, Lib.hid (by rw [HNX.out]; exact HL6.out), Lib.hid (by rw [HNX.out]; exact HR6.out), HB6⟩
      case measure => simp [intOf]; omega
    · have hkn1 : k = n := by omega
      have HLC1 := Lib.hid (show (cutL (cutL [] A) (B.take 0)).length = N by have h9 := HLC.out; rw [hkn1, ← HLA.out, List.take_length] at h9; exact h9)
      have HRC1 := Lib.hid (show Rd eI 1 wp aC (cutL (cutL [] A) (B.take 0)) by have h9 := HRC.out; rw [hkn1, ← HLA.out, List.take_length] at h9; exact h9)
      obtain ⟨N1, hN1⟩ : ∃ z, N = z := ⟨_, rfl⟩
      rw [hN1] at HLC1 ⊢
      have hN1b : N1 ≤ 60 := by omega
      clear hkn1 hN hN1 HLC HRC
      go_wp2_with fail
      clear hlt
      go_loopw [7, 9] (fun vc vi wr => ∃ (k N : Nat) (aC : Option Addr) (cC : Nat), k ≤ m ∧ N ≤ 60 + 2 * k ∧ vc = .slice aC N cC ∧ vi = .int .i64 (k : Int) ∧ Hid ((cutL (cutL [] A) (B.take k)).length = N) ∧ Hid (Rd eI 1 wr aC (cutL (cutL [] A) (B.take k))) ∧ Hid (Below w.heap.size w wr)) (fun _ vi _ => m - (intOf vi).toNat)
      case atStart => exact ⟨0, N1, aC, cC, Nat.zero_le _, by omega, rfl, rfl, HLC1, HRC1, HBk⟩
      case round =>
        obtain ⟨k, N, aC, cC, hk, hN, rfl, rfl, HLC, HRC, HBk⟩ := hrel
        obtain ⟨wp, hwp⟩ : ∃ wx, wx = wr := ⟨_, rfl⟩
        subst hwp
        by_cases hlt : k < m
        · obtain ⟨x, hx⟩ : ∃ z, B[k]? = some z := ⟨_, List.getElem?_eq_getElem (by rw [HLB.out]; exact hlt)⟩
          have HXx := Lib.hid hx
          have hxb := HIB.out x (List.mem_of_getElem? hx)
          obtain ⟨bl, ofs, hab, hC⟩ := HRB.out.addr (by rw [HLB.out]; omega)
          subst hab
          have HC := Lib.hid (fun wz hz => And.intro (hC k x hx wz hz 0 _ rfl) (hC k x hx wz hz 1 _ rfl))
          clear hx hC
          have j0 : (0 : Int) ≤ (k : Nat) := by omega
          have j1 : ((k : Nat) : Int) < m := by omega
          have i1 : IntKind.i64.wrap (x.til + 1) = x.til + 1 := IntWalk.i64_in _ (by omega)
          have hbk := HBk.out
          have HS : Hid (∀ wz, Below wp.heap.size wp wz → wz.cell? ⟨bl, ofs + k * 2, none⟩ = some (.int .i64 x.frm) ∧ wz.cell? ⟨bl, ofs + k * 2 + 1, none⟩ = some (.int .i64 x.til)) := Lib.hid fun wz hz => HC.out wz (hbk.trans (hz.mono hbk.size))
          have HD0 : Hid (Below wp.heap.size wp wp.drew) := Lib.hid (Below.refl _ _).drew
          have HRd := Lib.hid (HRC.out.below HD0.out)
          have HNX := Lib.hid (cutL_take (c := (cutL [] A)) HXx.out)
          clear hbk HC
          go_wp2_with fail
          go_region_held3 (fun wz : World => wz.cell? ⟨bl, ofs + k * 2, none⟩ = some (.int .i64 x.frm) ∧ wz.cell? ⟨bl, ofs + k * 2 + 1, none⟩ = some (.int .i64 x.til)) (first | (go_keep; done) | exact HS.out _ HD0.out | exact HS.out _ HD1.out | exact HS.out _ HD2.out | fail)
            (first
              | (go_at_call 51; (with_reducible refine (l00Put_any _ _ _ _ x.frm _ (by omega) HLC.out HRd.out).mono ?_); rintro e w5 ⟨a5, k5, c5, rfl, hk5, ho5, hb5⟩; have HD1 : Hid (Below wp.heap.size wp w5) := Lib.hid (HD0.out.trans (hb5.mono HD0.out.size)); have HL5 := Lib.hid (ho5.len eI_len (by decide)); have HR5 := Lib.hid (ho5.rd eI_len (by decide)); clear ho5 hb5)
              | (go_at_call 51; (with_reducible refine (l00Put_any _ _ _ _ (x.til + 1) _ (by omega) HL5.out HR5.out).mono ?_); rintro e w6 ⟨a6, k6, c6, rfl, hk6, ho6, hb6⟩; have HD2 : Hid (Below wp.heap.size wp w6) := Lib.hid (HD1.out.trans (hb6.mono HD1.out.size)); have HL6 := Lib.hid (ho6.len eI_len (by decide)); have HR6 := Lib.hid (ho6.rd eI_len (by decide)); clear ho6 hb6))
          have HB6 := Lib.hid (HBk.out.trans (HD2.out.mono HBk.out.size))
          clear HS HD0 HD1 HD2 HRd i1 j0 j1
          go_wp2_with fail
          go_roundw
          case rel => exact ⟨k + 1, k6, a6, c6, by omega, by omega, rfl, by go_num, Lib.hid (by rw [HNX.out]; exact HL6.out), Lib.hid (by rw [HNX.out]; exact HR6.out), HB6⟩
          case measure => simp [intOf]; omega
        · have hkn2 : k = m := by omega
          have HLC := Lib.hid (show (cutL (cutL [] A) B).length = N by have h9 := HLC.out; rw [hkn2, ← HLB.out, List.take_length] at h9; exact h9)
          have HRC := Lib.hid (show Rd eI 1 wp aC (cutL (cutL [] A) B) by have h9 := HRC.out; rw [hkn2, ← HLB.out, List.take_length] at h9; exact h9)
          obtain ⟨N2, hN2⟩ : ∃ z, N = z := ⟨_, rfl⟩
          subst hN2
          obtain ⟨N2, hN2⟩ : ∃ z, N = z := ⟨_, rfl⟩
          rw [hN2] at HLC ⊢
          have hN2b : N2 ≤ 120 := by omega
          obtain ⟨C, hCC⟩ : ∃ z, cutL (cutL [] A) B = z := ⟨_, rfl⟩
          clear hkn2 hN hN2
          have HCUT := Lib.hid (CutsOf.all A B)
          have HCIN := Lib.hid (cut_in HIA.out HIB.out)
          rw [hCC] at HCUT HCIN HLC HRC
          obtain ⟨n3, hn3⟩ : ∃ z, wp.heap.size = z := ⟨_, rfl⟩
          have HN3 := Lib.hid hn3
          have HO0 := Lib.hid (Ow.built Win.enc 2 wp 39)
          have hb0 := below_built wp 39
          rw [hn3] at HO0 hb0
          have HBB := HBk
          have hwn3 : w.heap.size ≤ n3 := by rw [← hn3]; exact HBk.out.size
          obtain ⟨w3, hw3⟩ : ∃ z, wp = z := ⟨_, rfl⟩
          subst hw3
          obtain ⟨w4, hw4⟩ : ∃ z, wp.alloc (.cells #[] 39) = z := ⟨_, rfl⟩
          obtain ⟨w3, hw3⟩ : ∃ z, wp = z := ⟨_, rfl⟩
          have HW4 := Lib.hid hw4
          rw [hw4] at HO0 hb0
          have HB4 := Lib.hid hb0
          have hsz4 : n3 ≤ w4.heap.size := by rw [← hn3]; rw [← hw4]; simp
          rw [hw3] at HB4 HN3 HRC HBB
          have HNN := Lib.hid hn3
          clear hb0 hw4 hn3 hw3 hCC
          go_wp2_with fail
          clear hlt
          rw [HW4.out, HNN.out]
          clear HW4 HNN
          go_loopw [10, 11] (fun vo vi wr => ∃ (i N : Nat) (aO : Option Addr) (cO : Nat) (L : List Win), (i + 1 ≤ N2 ∨ i = 0) ∧ vo = .slice aO N cO ∧ vi = .int .i64 (i : Int) ∧ Hid (MadQ 2 A B C i L) ∧ Hid (Ow Win.enc 2 wr n3 39 (.slice aO N cO) N L) ∧ Hid (Below n3 w3 wr) ∧ n3 ≤ wr.heap.size) (fun _ vi _ => N2 - (intOf vi).toNat)
          case atStart => exact ⟨0, 0, _, _, [], .inr rfl, rfl, rfl, Lib.hid (MadQ.zero 2 HCUT.out), HO0, HB4, hsz4⟩
          case round =>
            obtain ⟨i, N, aO, cO, L, hi, rfl, rfl, HQ, HOq, HBq, hszq⟩ := hrel
            obtain ⟨wq, hwq⟩ : ∃ wx, wx = wr := ⟨_, rfl⟩
            subst hwq
            have hNi : N ≤ i := by have h9 := HQ.out.n; rw [HOq.out.len Win.len (by decide)] at h9; exact h9
            have ii : IntKind.i64.wrap ((i : Int) + 1) = ((i + 1 : Nat) : Int) := by rw [show ((i + 1 : Nat) : Int) = (i : Int) + 1 by omega]; exact IntWalk.i64_in _ (by omega)
            by_cases hli : i + 1 < N2
            · have d12 : decide (((i + 1 : Nat) : Int) < (N2 : Int)) = true := decide_eq_true (by omega)
              have d12n : decide (i + 1 < N2) = true := decide_eq_true hli
              obtain ⟨ci, hci⟩ : ∃ z, C[i]? = some z := ⟨_, List.getElem?_eq_getElem (by rw [HLC.out]; omega)⟩
              obtain ⟨cj, hcj⟩ : ∃ z, C[i + 1]? = some z := ⟨_, List.getElem?_eq_getElem (by rw [HLC.out]; omega)⟩
              have hcib := HCIN.out ci (List.mem_of_getElem? hci)
              have hcjb := HCIN.out cj (List.mem_of_getElem? hcj)
              obtain ⟨bC, oC, hab, hCC2⟩ := HRC.out.addr1 (by rw [HLC.out]; omega) (fun _ => rfl)
              subst hab
              have HCC := Lib.hid hCC2
              have HCi := Lib.hid hci
              have HCj := Lib.hid hcj
              have xi : wq.cell? ⟨bC, oC + i, none⟩ = some (.int .i64 ci) := HCC.out i ci HCi.out wq (by rw [HN3.out]; exact HBq.out)
              have ji0 : (0 : Int) ≤ (i : Nat) := by omega
              have ji1 : ((i : Nat) : Int) < N2 := by omega
              have jj0' : (0 : Int) ≤ ((i + 1 : Nat) : Int) := by omega
              have jj1' : ((i + 1 : Nat) : Int) < N2 := by omega
              have jk0 : (0 : Int) ≤ (i : Int) + 1 := by omega
              have jk1 : (i : Int) + 1 < (N2 : Int) := by omega
              have jk2 : ((i : Int) + 1).toNat = i + 1 := by omega
              have icj : IntKind.i64.wrap (cj - 1) = cj - 1 := IntWalk.i64_in _ (by omega)
              clear hci hcj hCC2
              have HBw := Lib.hid (HBB.out.trans (HBq.out.mono hwn3))
              go_wp2_with fail
              refine (l15In_any A a n c ci wq (by omega) HLA.out (HRA.out.below HBw.out)).mono ?_
              rintro e w5 ⟨rfl, hb5⟩
              have HO5 := Lib.hid (HOq.out.below hb5)
              have HB5 := Lib.hid (HBq.out.trans (hb5.mono hszq))
              have HBw5 := Lib.hid (HBw.out.trans (hb5.mono HBw.out.size))
              have hsz5 : n3 ≤ w5.heap.size := Nat.le_trans hszq hb5.size
              have xi5 : w5.cell? ⟨bC, oC + i, none⟩ = some (.int .i64 ci) := HCC.out i ci HCi.out w5 (by rw [HN3.out]; exact HB5.out)
              clear hb5 HOq HBq hszq xi HBw
              go_wp2_with fail
              refine (l15In_any B b m d ci w5 (by omega) HLB.out (HRB.out.below HBw5.out)).mono ?_
              rintro e w6 ⟨rfl, hb6⟩
              have HOq := Lib.hid (HO5.out.below hb6)
              have HBq := Lib.hid (HB5.out.trans (hb6.mono hsz5))
              have hszq : n3 ≤ w6.heap.size := Nat.le_trans hsz5 hb6.size
              have xi : w6.cell? ⟨bC, oC + i, none⟩ = some (.int .i64 ci) := HCC.out i ci HCi.out w6 (by rw [HN3.out]; exact HBq.out)
              clear hb6 HO5 HB5 hsz5 xi5 HBw5
              obtain ⟨wq, hwq6⟩ : ∃ wx, wx = w6 := ⟨_, rfl⟩
              subst hwq6
              cases hxa : inWB A ci with
              | true =>
                have HXa := Lib.hid hxa
                clear hxa
                cases hxb : inWB B ci with
                | true =>
                  have HXb := Lib.hid hxb
                  clear hxb
                  have HRT : Hid (ruleB 2 (inWB A ci) (inWB B ci) = true) := Lib.hid (by rw [HXa.out, HXb.out]; rfl)
                  by_cases hN0 : N = 0
                  · subst hN0
                    have hL0 : L = [] := List.eq_nil_of_length_eq_zero (HOq.out.len Win.len (by decide))
                    have HNEW := Lib.hid (HQ.out.new HCUT.out HCi.out HCj.out HRT.out (fun y hy => by rw [hL0] at hy; cases hy))
                    clear hL0
                    go_upto_region 18 with (fail)
                    go_quiet (fail)
                    have hb7 : Below wq.heap.size wq (wq.drewN nq) := below_drewN (Below.refl _ _) nq
                    have HOz := Lib.hid (HOq.out.below hb7)
                    have HBz := Lib.hid (HBq.out.trans (hb7.mono hszq))
                    have hszz : n3 ≤ (wq.drewN nq).heap.size := Nat.le_trans hszq hb7.size
                    clear HOq HBq hszq
                    obtain ⟨wz, hwz⟩ : ∃ z, wq.drewN nq = z := ⟨_, rfl⟩
                    rw [hwz] at HOz HBz hszz ⊢
                    clear hwz hb7
                    obtain ⟨wq, hwz⟩ : ∃ z, z = wz := ⟨_, rfl⟩
                    subst hwz
                    have HOq := HOz
                    have HBq := HBz
                    have hszq := hszz
                    clear HOz HBz hszz
                    go_upto_region 22 with (fail)
                    have HDw : Hid (Below wq.heap.size wq wq.drew) := Lib.hid (Below.refl _ _).drew
                    have HOD := Lib.hid (HOq.out.below HDw.out)
                    have HSc : Hid (∀ wz, Below n3 w3 wz → wz.cell? ⟨bC, oC + i, none⟩ = some (.int .i64 ci) ∧ wz.cell? ⟨bC, oC + (i + 1), none⟩ = some (.int .i64 cj)) := Lib.hid fun wz hz => by
                      have hz' : Below w3.heap.size w3 wz := by rw [HN3.out]; exact hz
                      exact ⟨HCC.out i ci HCi.out wz hz', HCC.out (i + 1) cj HCj.out wz hz'⟩
                    have HDA : Hid (Below n3 w3 wq.drew) := Lib.hid (HBq.out.trans (HDw.out.mono hszq))
                    have hszd : n3 ≤ wq.drew.heap.size := Nat.le_trans hszq HDw.out.size
                    have h63 : 0 + 1 ≤ maxLen := by unfold maxLen; omega
                    have hby : (0 + 1) * 16 ≤ 140737488355328 := by omega
                    obtain ⟨ys, hys⟩ : ∃ ys, L ++ [(⟨ci, cj - 1⟩ : Win)] = ys := ⟨_, rfl⟩
                    have HYS := Lib.hid hys
                    clear hys
                    go_wp2_with fail
                    go_region_held3 (fun wz : World => wz.cell? ⟨bC, oC + i, none⟩ = some (.int .i64 ci) ∧ wz.cell? ⟨bC, oC + (i + 1), none⟩ = some (.int .i64 cj)) (first | (go_keep; done) | exact HSc.out _ HDA.out | exact HSc.out _ HB9.out | exact HSc.out _ (HDA.out.alloc hszd _) | fail)
                      (first
                        | (refine step_app Win.len (by decide) _ rfl (.tmp 145) (.tmp 157) 24 rfl 39 _ 16 rfl Try.underlying24 Try.info39 n3 _ (0) _ rfl wq.drew _ _ rfl HOD.out (⟨ci, cj - 1⟩ : Win) rfl rfl (Win.one _) h63 hby hszd ys HYS ?_; intro a9 c9 w9 ho9 hb9 hs9; have HO9 := Lib.hid ho9; have HB9 := Lib.hid (HDA.out.trans hb9); clear ho9 hb9))
                    have hsz9 : n3 ≤ w9.heap.size := HB9.out.size |> fun h => by have h8 := HN3.out; omega
                    clear HSc HDA HDw hszd h63 hby HOD
                    go_wp2_with fail
                    go_roundw
                    case rel => exact ⟨i + 1, 0 + 1, a9, c9, ys, .inl (by omega), rfl, by go_num, Lib.hid (by rw [← HYS.out]; exact HNEW.out), HO9, HB9, hsz9⟩
                    case measure => simp [intOf]; omega
                  · obtain ⟨K, rfl⟩ : ∃ z, N = z + 1 := ⟨N - 1, by omega⟩
                    obtain ⟨mm, y, hLm, hml⟩ := snoc_at (HOq.out.len Win.len (by decide))
                    obtain ⟨go, hgo, hgo1, hgo2⟩ := HOq.out.at_ (by omega)
                    subst hgo
                    have hy : L[K]? = some y := by rw [hLm, List.getElem?_append_right (by omega), hml, Nat.sub_self]; rfl
                    have hyb := mad_til HQ.out HIA.out HIB.out HCi.out (List.mem_of_getElem? hy)
                    have HLM := Lib.hid hLm
                    have HML := Lib.hid hml
                    have HY := Lib.hid hy
                    have i6 : IntKind.i64.wrap (((K + 1 : Nat) : Int) - 1) = (K : Int) := by rw [show ((K + 1 : Nat) : Int) - 1 = (K : Int) by omega]; exact IntWalk.i64_in _ (by omega)
                    have d7 : decide (0 < ((K + 1 : Nat) : Int)) = true := decide_eq_true (by omega)
                    have d7n : decide (0 < K + 1) = true := decide_eq_true (by omega)
                    have i7 : IntKind.i64.wrap (y.til + 1) = y.til + 1 := IntWalk.i64_in _ (by omega)
                    have jj0 : (0 : Int) ≤ (K : Nat) := by omega
                    have jj1 : ((K : Nat) : Int) < ((K + 1 : Nat) : Int) := by omega
                    have cy := HOq.out.cellW HY.out
                    have cy0 := cy.1
                    have cy1 := cy.2
                    clear cy hLm hml hy
                    by_cases hc : y.til + 1 = ci
                    · have d8 : (y.til + 1 == ci) = true := beq_iff_eq.2 hc
                      have HNEW := Lib.hid (MadQ.more (by rw [← HLM.out]; exact HQ.out) HCUT.out HCi.out HCj.out HRT.out hc)
                      clear hc
                      go_upto_region 18 with (fail)
                      go_quiet (fail)
                      clear cy0 cy1 xi
                      have hb7 : Below wq.heap.size wq (wq.drewN nq) := below_drewN (Below.refl _ _) nq
                      have HOz := Lib.hid (HOq.out.below hb7)
                      have HBz := Lib.hid (HBq.out.trans (hb7.mono hszq))
                      have hszz : n3 ≤ (wq.drewN nq).heap.size := Nat.le_trans hszq hb7.size
                      clear HOq HBq hszq
                      obtain ⟨wz, hwz⟩ : ∃ z, wq.drewN nq = z := ⟨_, rfl⟩
                      rw [hwz] at HOz HBz hszz ⊢
                      clear hwz hb7
                      obtain ⟨wq, hwz⟩ : ∃ z, z = wz := ⟨_, rfl⟩
                      subst hwz
                      have HOq := HOz
                      have HBq := HBz
                      have hszq := hszz
                      clear HOz HBz hszz
                      have cy := HOq.out.cellW HY.out
                      have cy0 := cy.1
                      have cy1 := cy.2
                      clear cy
                      have hbx := (Below.refl wq.heap.size wq).alloc (Nat.le_refl _) (.cells #[.int .i64 y.frm, .int .i64 y.til] 39)
                      have HCb := Lib.hid (CAt.new wq #[.int .i64 y.frm, .int .i64 y.til] 39)
                      have HO7 := Lib.hid (HOq.out.below hbx)
                      have HB7 := Lib.hid (HBq.out.trans (hbx.mono hszq))
                      have hsz7 : n3 ≤ (wq.alloc (.cells #[.int .i64 y.frm, .int .i64 y.til] 39)).heap.size := Nat.le_trans hszq hbx.size
                      go_upto_region 20 with (fail)
                      obtain ⟨w7, hw7⟩ : ∃ z, wq.alloc (.cells #[.int .i64 y.frm, .int .i64 y.til] 39) = z := ⟨_, rfl⟩
                      obtain ⟨g7, hg7⟩ : ∃ z, wq.heap.size = z := ⟨_, rfl⟩
                      rw [hw7] at HCb HO7 HB7 hsz7 ⊢
                      rw [hg7] at HCb ⊢
                      have hgo7 : go < g7 := by
                        have h9 := HOq.out.lt go rfl
                        omega
                      clear cy0 cy1 hw7 hg7 hbx
                      have xj := HCC.out (i + 1) cj HCj.out w7 (by rw [HN3.out]; exact HB7.out)
                      have b0 := HCb.out.cell 0
                      have b1 := HCb.out.cell 1
                      have fb := HCb.out.free 1
                      have HC8 := Lib.hid (HCb.out.set 1 (.int .i64 (cj - 1)))
                      have HO8 := Lib.hid (HO7.out.same (w' := w7.setCell ⟨g7, 1, none⟩ (.int .i64 (cj - 1))) fun q hq => Below.heap_setCell _ _ _ _ (by
                        have h9 : go = q := by simpa [Value.ownBlock] using hq
                        show q ≠ g7
                        omega))
                      have HB8 := Lib.hid (HB7.out.setCell (p := ⟨g7, 1, none⟩) (show n3 ≤ g7 by omega) (.int .i64 (cj - 1)))
                      go_upto_region 21 with (fail)
                      obtain ⟨w8, hw8⟩ : ∃ z, w7.setCell ⟨g7, 1, none⟩ (.int .i64 (cj - 1)) = z := ⟨_, rfl⟩
                      rw [hw8] at HC8 HO8 HB8 ⊢
                      clear hw8 xj b0 b1 fb
                      have b0 := HC8.out.cell 0
                      have b1 := HC8.out.cell 1
                      have cy := HO8.out.cellW HY.out
                      have cy0 := cy.1
                      have cy1 := cy.2
                      have fy0 := HO8.out.frozW (K * 2)
                      have hmw := HO8.out.midW HY.out (.int .i64 y.frm)
                      have cm := hmw.1
                      have fm := hmw.2
                      have HO9 := Lib.hid (HO8.out.setW K ⟨y.frm, cj - 1⟩)
                      have HB9 := Lib.hid (Below.setW HB8.out (show n3 ≤ go from hgo1) K ⟨y.frm, cj - 1⟩)
                      clear cy hmw
                      go_wp2_with fail
                      obtain ⟨w9, hw9⟩ : ∃ z, (w8.setCell ⟨go, K * 2, none⟩ (.int .i64 y.frm)).setCell ⟨go, K * 2 + 1, none⟩ (.int .i64 (cj - 1)) = z := ⟨_, rfl⟩
                      rw [hw9] at HO9 HB9 ⊢
                      rw [HLM.out, setLast HML.out] at HO9
                      have hsz9 : n3 ≤ w9.heap.size := HB9.out.size |> fun h => by have h8 := HN3.out; omega
                      clear hw9 b0 b1 cy0 cy1 fy0 cm fm
                      go_wp2_with fail
                      go_roundw
                      case rel => exact ⟨i + 1, K + 1, _, cO, _, .inl (by omega), rfl, by go_num, HNEW, HO9, HB9, hsz9⟩
                      case measure => simp [intOf]; omega
                    · have d8 : (y.til + 1 == ci) = false := beq_eq_false_iff_ne.2 hc
                      have HNEW := Lib.hid (HQ.out.new HCUT.out HCi.out HCj.out HRT.out (by rw [HLM.out]; exact MadQ.far (by rw [← HLM.out]; exact HQ.out) HCi.out hc))
                      clear hc
                      go_upto_region 18 with (fail)
                      go_quiet (fail)
                      clear cy0 cy1 xi
                      have hb7 : Below wq.heap.size wq (wq.drewN nq) := below_drewN (Below.refl _ _) nq
                      have HOz := Lib.hid (HOq.out.below hb7)
                      have HBz := Lib.hid (HBq.out.trans (hb7.mono hszq))
                      have hszz : n3 ≤ (wq.drewN nq).heap.size := Nat.le_trans hszq hb7.size
                      clear HOq HBq hszq
                      obtain ⟨wz, hwz⟩ : ∃ z, wq.drewN nq = z := ⟨_, rfl⟩
                      rw [hwz] at HOz HBz hszz ⊢
                      clear hwz hb7
                      obtain ⟨wq, hwz⟩ : ∃ z, z = wz := ⟨_, rfl⟩
                      subst hwz
                      have HOq := HOz
                      have HBq := HBz
                      have hszq := hszz
                      clear HOz HBz hszz
                      go_upto_region 22 with (fail)
                      have HDw : Hid (Below wq.heap.size wq wq.drew) := Lib.hid (Below.refl _ _).drew
                      have HOD := Lib.hid (HOq.out.below HDw.out)
                      have HSc : Hid (∀ wz, Below n3 w3 wz → wz.cell? ⟨bC, oC + i, none⟩ = some (.int .i64 ci) ∧ wz.cell? ⟨bC, oC + (i + 1), none⟩ = some (.int .i64 cj)) := Lib.hid fun wz hz => by
                        have hz' : Below w3.heap.size w3 wz := by rw [HN3.out]; exact hz
                        exact ⟨HCC.out i ci HCi.out wz hz', HCC.out (i + 1) cj HCj.out wz hz'⟩
                      have HDA : Hid (Below n3 w3 wq.drew) := Lib.hid (HBq.out.trans (HDw.out.mono hszq))
                      have hszd : n3 ≤ wq.drew.heap.size := Nat.le_trans hszq HDw.out.size
                      have h63 : K + 1 + 1 ≤ maxLen := by unfold maxLen; omega
                      have hby : (K + 1 + 1) * 16 ≤ 140737488355328 := by omega
                      obtain ⟨ys, hys⟩ : ∃ ys, L ++ [(⟨ci, cj - 1⟩ : Win)] = ys := ⟨_, rfl⟩
                      have HYS := Lib.hid hys
                      clear hys
                      go_wp2_with fail
                      go_region_held3 (fun wz : World => wz.cell? ⟨bC, oC + i, none⟩ = some (.int .i64 ci) ∧ wz.cell? ⟨bC, oC + (i + 1), none⟩ = some (.int .i64 cj)) (first | (go_keep; done) | exact HSc.out _ HDA.out | exact HSc.out _ HB9.out | exact HSc.out _ (HDA.out.alloc hszd _) | fail)
                        (first
                          | (refine step_app Win.len (by decide) _ rfl (.tmp 145) (.tmp 157) 24 rfl 39 _ 16 rfl Try.underlying24 Try.info39 n3 _ (K + 1) _ rfl wq.drew _ _ rfl HOD.out (⟨ci, cj - 1⟩ : Win) rfl rfl (Win.one _) h63 hby hszd ys HYS ?_; intro a9 c9 w9 ho9 hb9 hs9; have HO9 := Lib.hid ho9; have HB9 := Lib.hid (HDA.out.trans hb9); clear ho9 hb9))
                      have hsz9 : n3 ≤ w9.heap.size := HB9.out.size |> fun h => by have h8 := HN3.out; omega
                      clear HSc HDA HDw hszd h63 hby HOD
                      go_wp2_with fail
                      go_roundw
                      case rel => exact ⟨i + 1, K + 1 + 1, a9, c9, ys, .inl (by omega), rfl, by go_num, Lib.hid (by rw [← HYS.out]; exact HNEW.out), HO9, HB9, hsz9⟩
                      case measure => simp [intOf]; omega
                | false =>
                  have HXb := Lib.hid hxb
                  clear hxb
                  have HNEW := Lib.hid (HQ.out.skip HCUT.out HCi.out (by rw [HXa.out, HXb.out]; rfl))
                  go_wp2_with fail
                  go_roundw
                  case rel => exact ⟨i + 1, N, aO, cO, L, .inl (by omega), rfl, by go_num, HNEW, HOq, HBq, hszq⟩
                  case measure => simp [intOf]; omega
              | false =>
                have HXa := Lib.hid hxa
                clear hxa
                cases hxb : inWB B ci with
                | true =>
                  have HXb := Lib.hid hxb
                  clear hxb
                  have HNEW := Lib.hid (HQ.out.skip HCUT.out HCi.out (by rw [HXa.out, HXb.out]; rfl))
                  go_wp2_with fail
                  go_roundw
                  case rel => exact ⟨i + 1, N, aO, cO, L, .inl (by omega), rfl, by go_num, HNEW, HOq, HBq, hszq⟩
                  case measure => simp [intOf]; omega
                | false =>
                  have HXb := Lib.hid hxb
                  clear hxb
                  have HNEW := Lib.hid (HQ.out.skip HCUT.out HCi.out (by rw [HXa.out, HXb.out]; rfl))
                  go_wp2_with fail
                  go_roundw
                  case rel => exact ⟨i + 1, N, aO, cO, L, .inl (by omega), rfl, by go_num, HNEW, HOq, HBq, hszq⟩
                  case measure => simp [intOf]; omega
            · have d12 : decide (((i + 1 : Nat) : Int) < (N2 : Int)) = false := decide_eq_false (by omega)
              have d12n : decide (i + 1 < N2) = false := decide_eq_false hli
              have HFIN := Lib.hid (HQ.out.done HCUT.out (by rw [HLC.out]; omega))
              have HBF := Lib.hid (HBB.out.trans (HBq.out.mono hwn3))
              go_wp2_with fail
              go_ret
              exact ⟨_, N, _, L, rfl, HFIN.out, HOq.out.mono hwn3, by omega, HBF.out⟩
end Go.Proofs.Ythjpfidlpdgeaaa
