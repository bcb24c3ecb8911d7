/-
  The first list of sides without any overlap: the recursion of the program and of the reference.
-/
import Derived.Test.YtiledenbgdeglaaDoorMkE
import Derived.Test.YtiledenbgdeglaaDoorMk6
import Derived.Test.YtiledenbgdeglaaDoorOwnI
import Derived.Test.YtiledenbgdeglaaDoorCopy
namespace Go.Proofs.YtiledenbgdeglaaDoor
open Go.RowKit
set_option maxRecDepth 100000
set_option linter.unusedVariables false
set_option linter.unusedSimpArgs false
theorem infoPu : (Tryd.prog.info? 2).map (fun i => (i.zero, i.size, i.bytes)) = some (some (.int .i64 0), 1, 8) := by kernel_rfl
def PutP (l : List Mrk) (f : Nat) (ss : List Int) (w : World) (e : Ending) (w' : World) : Prop := ∃ (a' : Option Addr) (m' c' : Nat), e = .returned (.tuple #[.slice a' m' c', .bool (putG l f ss).isSome]) ∧ ((putG l f ss).getD []).length = m' ∧ m' ≤ c' ∧ Rd eI 1 w' a' ((putG l f ss).getD []) ∧ Below w.heap.size w w'
theorem putP_none {l : List Mrk} {f : Nat} {ss : List Int} {w w' : World} {e : Ending} (h : putG l f ss = none) (he : e = .returned (.tuple #[.slice none 0 0, .bool false])) (hb : Below w.heap.size w w') : PutP l f ss w e w' :=
  ⟨none, 0, 0, by rw [h]; exact he, by rw [h]; rfl, Nat.le_refl _, by rw [h]; exact Rd.nil _ _ _ _, hb⟩
theorem putP_some {l : List Mrk} {f : Nat} {ss t : List Int} {w w' : World} {e : Ending} {a : Option Addr} {m c : Nat} (h : putG l f ss = some t) (he : e = .returned (.tuple #[.slice a m c, .bool true])) (hl : t.length = m) (hc : m ≤ c) (hr : Rd eI 1 w' a t) (hb : Below w.heap.size w w') : PutP l f ss w e w' :=
  ⟨a, m, c, by rw [h]; exact he, by rw [h]; exact hl, hc, by rw [h]; exact hr, hb⟩
theorem tryS_0 {g : List Int → Option (List Int)} {ok : Int → Bool} {ss : List Int} {s : Nat} (h : s = 4) : tryS g ok ss (4 - s) = none := by subst h; rfl
set_option maxHeartbeats 8000000 in
theorem imPut (l : List Mrk) (n : Nat) (hn : n ≤ 8) (hl : l.length = n) (hch : chrB l = true) : ∀ (f : Nat) (ss : List Int) (a b : Option Addr) (k c d : Nat) (w : World), ss.length = k → k + f = n → k ≤ d → Rd Mrk.enc 3 w a l → Rd eI 1 w b ss → TabOk w → Calls Tryd.prog 45 #[.slice a n c, .slice b k d] w (PutP l f ss w) := by
  intro f
  induction f with
  | zero =>
    intro ss a b k c d w hk hkf hkd ra rb hT
    obtain rfl : k = n := by omega
    have HK := Lib.hid hk
    have HRB := Lib.hid rb
    have dk : ((k : Int) == (k : Int)) = true := by simp
    clear ra hT rb hk hkf hch hl
    go_enter Tryd.func45, Tryd.ntmps45
    go_wp2_with fail
    go_ret2
    exact putP_some rfl rfl HK.out hkd HRB.out (Below.refl _ _)
  | succ f ih =>
    intro ss a b k c d w hk hkf hkd ra rb hT
    have HIH := Lib.hid ih
    have HL := Lib.hid hl
    have HK := Lib.hid hk
    have HRA := Lib.hid ra
    have HRB := Lib.hid rb
    have HT := Lib.hid hT
    have HALL := Lib.hid (chrB_parts hch).2
    have hkn : k < n := by omega
    have dk : ((k : Int) == (n : Int)) = false := by rw [beq_eq_false_iff_ne]; omega
    have dkn : (k == n) = false := by rw [beq_eq_false_iff_ne]; omega
    obtain ⟨m, hm⟩ : ∃ z, l[k]? = some z := ⟨_, List.getElem?_eq_getElem (by omega)⟩
    have hnx : nextM l ss = m := by unfold nextM; rw [hk]; simp [List.getD, hm]
    obtain ⟨OKF, hOK⟩ : ∃ z : Int → Bool, (fun s => frK l ss m s k) = z := ⟨_, rfl⟩
    obtain ⟨R, hR⟩ : ∃ R, putG l (f + 1) ss = R := ⟨_, rfl⟩
    have HRR := Lib.hid hR
    have HOK : Hid (∀ s, OKF s = frK l ss m s k) := Lib.hid fun s => by rw [← hOK]
    have HTR : Hid (tryS (putG l f) OKF ss (4 - 0) = R) := Lib.hid (by rw [← hR, ← hOK]; unfold putG; rw [hnx, hk])
    have HM := Lib.hid hm
    have HMO := Lib.hid (HALL.out k m hm).1
    obtain ⟨b1, o1, e1, C1⟩ := ra.addr (by omega)
    subst e1
    have HC1 := Lib.hid C1
    have HKF := Lib.hid hkf
    clear ih hl hk hch ra rb hT hm hnx hOK hR C1 hkf
    go_enter Tryd.func45, Tryd.ntmps45
    go_wp2_with fail
    clear dk dkn
    go_loopw [21] (fun sv wr => ∃ s : Nat, s ≤ 4 ∧ sv = .int .i64 s ∧ Hid (tryS (putG l f) OKF ss (4 - s) = R) ∧ Hid (Below w.heap.size w wr)) (fun sv _ => 4 - (intOf sv).toNat)
    case atStart => exact ⟨0, by omega, rfl, HTR, Lib.hid (Below.refl _ _)⟩
    case round =>
    obtain ⟨s, hs, rfl, HTS, HB⟩ := hrel
    obtain ⟨w1, hw1⟩ : ∃ wx, wx = wr := ⟨_, rfl⟩
    subst hw1
    clear HTR
    by_cases hs4 : s < 4
    · have c0 : w1.cell? ⟨b1, o1 + k * 3, none⟩ = some (.int .i64 m.x) := HC1.out k m HM.out w1 HB.out 0 _ rfl
      have c1 : w1.cell? ⟨b1, o1 + k * 3 + 1, none⟩ = some (.int .i64 m.y) := HC1.out k m HM.out w1 HB.out 1 _ rfl
      have c2 : w1.cell? ⟨b1, o1 + k * 3 + 2, none⟩ = some (.int .i64 m.mag) := HC1.out k m HM.out w1 HB.out 2 _ rfl
      have j0 : (0 : Int) ≤ (k : Nat) := by omega
      have j1 : ((k : Nat) : Int) < n := by omega
      have is1 : IntKind.i64.wrap ((s : Int) + 1) = (s : Int) + 1 := IntWalk.i64_in _ (by omega)
      go_wp2_with fail
      refine (imBox m HMO.out (s : Int) _ (HT.out.below HB.out)).mono ?_
      rintro e w2 ⟨aM, rfl, hrm, hb2⟩
      have HRM := Lib.hid hrm
      have HB2 := Lib.hid (HB.out.trans (hb2.mono HB.out.size))
      have HLM := Lib.hid (boxM_bd HMO.out (s : Int)).1
      clear c0 c1 c2 hrm hb2
      go_wp2_with fail
      go_loopw [9, 32] (fun fv jv wr => ∃ (j : Nat) (fb : Bool), j ≤ k ∧ jv = .int .i64 j ∧ fv = .bool fb ∧ Hid (frK l ss m (s : Int) j = fb) ∧ Hid (Below w2.heap.size w2 wr)) (fun _ jv _ => k - (intOf jv).toNat)
      case atStart => exact ⟨0, true, Nat.zero_le _, rfl, rfl, Lib.hid rfl, Lib.hid (Below.refl _ _)⟩
      case round =>
      obtain ⟨j, fb, hj, rfl, rfl, HFR, HBj⟩ := hrel
      obtain ⟨w3, hw3⟩ : ∃ wx, wx = wr := ⟨_, rfl⟩
      subst hw3
      have HBW := Lib.hid (HB2.out.trans (HBj.out.mono HB2.out.size))
      by_cases hjk : j < k
      · obtain ⟨q, hq⟩ : ∃ z, l[j]? = some z := ⟨_, List.getElem?_eq_getElem (by rw [HL.out]; omega)⟩
        obtain ⟨y, hy⟩ : ∃ z, ss[j]? = some z := ⟨_, List.getElem?_eq_getElem (by rw [HK.out]; exact hjk)⟩
        have HQO := Lib.hid (HALL.out j q hq).1
        have HFN := Lib.hid (frK_step (m := m) (s := (s : Int)) hq hy)
        rw [HFR.out] at HFN
        obtain ⟨b2, o2, e2, C2⟩ := (HRB.out.below HBW.out).addr1 (f := fun x => Value.int .i64 x) (by rw [HK.out]; omega) (fun _ => rfl)
        subst e2
        have i0 : (0 : Int) ≤ (j : Nat) := by omega
        have i1 : ((j : Nat) : Int) < k := by omega
        have i2 : ((j : Nat) : Int) < n := by omega
        have y0 : w3.cell? ⟨b2, o2 + j, none⟩ = some (.int .i64 y) := C2 j y hy w3 (Below.refl _ _)
        have q0 : w3.cell? ⟨b1, o1 + j * 3, none⟩ = some (.int .i64 q.x) := HC1.out j q hq w3 HBW.out 0 _ rfl
        have q1 : w3.cell? ⟨b1, o1 + j * 3 + 1, none⟩ = some (.int .i64 q.y) := HC1.out j q hq w3 HBW.out 1 _ rfl
        have q2 : w3.cell? ⟨b1, o1 + j * 3 + 2, none⟩ = some (.int .i64 q.mag) := HC1.out j q hq w3 HBW.out 2 _ rfl
        have HSF : Hid (∀ wz, Below w3.heap.size w3 wz → wz.cell? ⟨b1, o1 + j * 3, none⟩ = some (.int .i64 q.x) ∧ wz.cell? ⟨b1, o1 + j * 3 + 1, none⟩ = some (.int .i64 q.y) ∧ wz.cell? ⟨b1, o1 + j * 3 + 2, none⟩ = some (.int .i64 q.mag) ∧ wz.cell? ⟨b2, o2 + j, none⟩ = some (.int .i64 y)) := Lib.hid fun wz hz => ⟨(hz.cell (lt_of_cell q0)).trans q0, (hz.cell (lt_of_cell q1)).trans q1, (hz.cell (lt_of_cell q2)).trans q2, (hz.cell (lt_of_cell y0)).trans y0⟩
        have HLQ := Lib.hid (boxM_bd HQO.out y).1
        obtain ⟨mb, hmb⟩ : ∃ z, meetB (boxM m (s : Int)) (boxM q y) = z := ⟨_, rfl⟩
        rw [hmb] at HFN
        have HMB := Lib.hid hmb
        clear hq hy C2 hmb
        cases fb with
        | false =>
          have HF2 : Hid (frK l ss m (s : Int) (j + 1) = false) := Lib.hid (by rw [HFN.out]; rfl)
          go_wp2_with fail
          go_roundw
          case rel => exact ⟨j + 1, false, by omega, by go_num, rfl, HF2, HBj⟩
          case measure => simp [intOf]; omega
        | true =>
          have HF2 : Hid (frK l ss m (s : Int) (j + 1) = !mb) := Lib.hid (by rw [HFN.out]; simp)
          go_wp2_with fail
          refine (imBox q HQO.out y _ (HT.out.below HBW.out)).mono ?_
          rintro e w4 ⟨aQ, rfl, hrq, hb4⟩
          have HRQ := Lib.hid hrq
          have HB4 := Lib.hid (HBj.out.trans (hb4.mono HBj.out.size))
          clear hrq hb4 y0 q0 q1 q2
          go_wp2_with fail
          refine (imMeet (boxM q y) (boxM m (s : Int)) aQ aM _ HLQ.out HLM.out HRQ.out (HRM.out.below HB4.out)).mono ?_
          rintro e w5 ⟨rfl, hb5⟩
          rw [meetB_comm, HMB.out]
          have HB5 := Lib.hid (HB4.out.trans (hb5.mono HB4.out.size))
          clear hb5
          go_wp2_with fail
          go_roundw
          case rel => exact ⟨j + 1, !mb, by omega, by go_num, rfl, HF2, HB5⟩
          case measure => simp [intOf]; omega
      obtain rfl : k = j := by omega
      have HOS : Hid (OKF (s : Int) = fb) := Lib.hid (by rw [HOK.out]; exact HFR.out)
      cases fb with
      | false =>
        have HT2 : Hid (tryS (putG l f) OKF ss (4 - (s + 1)) = R) := Lib.hid (by rw [← tryS_skip hs4 HOS.out]; exact HTS.out)
        go_wp2_with fail
        go_roundw
        case rel => exact ⟨s + 1, by omega, by go_num, HT2, HBW⟩
        case measure => simp [intOf]; omega
      | true =>
        go_wp2_with fail
        refine (copyOfInt_any ss b k d _ (by omega) HK.out (HRB.out.below HBW.out)).mono ?_
        rintro e w4 ⟨a4, c4, rfl, ho4, hb4⟩
        have HO4 := Lib.hid ho4
        have HB4 := Lib.hid (HBW.out.trans (hb4.mono HBW.out.size))
        have hsz4 : w3.heap.size ≤ w4.heap.size := hb4.size
        obtain ⟨ys, hys⟩ : ∃ ys, ss ++ [(s : Int)] = ys := ⟨_, rfl⟩
        have HYS := Lib.hid hys
        have h63 : k + 1 ≤ maxLen := by unfold maxLen; omega
        have hby : (k + 1) * 8 ≤ 140737488355328 := by omega
        clear ho4 hb4 hys
        go_wp2_with (at_builtin; refine wpl_app eI_len (by decide) _ rfl (.tmp 55) (.tmp 57) 26 rfl 2 _ 8 rfl Tryd.underlying26 infoPu w3.heap.size (.slice a4 k c4) k _ rfl w4 _ _ rfl HO4.out (s : Int) rfl rfl (eI_one _) h63 hby hsz4 ys HYS ?_)
        intro a6 c6 w6 ho6 hb6 hs6
        have HR6 := Lib.hid (ho6.rd eI_len (by decide))
        have HC6 := Lib.hid ho6.caps.1
        have HL6 := Lib.hid (ho6.len eI_len (by decide))
        have hb6' : Below w3.heap.size w4 w6 := hb6
        have HB6 := Lib.hid (HB4.out.trans (hb6'.mono HBW.out.size))
        have HCALL := Lib.hid (HIH.out ys (some ⟨b1, o1, none⟩) a6 (k + 1) c c6 w6 HL6.out (by have := HKF.out; omega) HC6.out (HRA.out.below HB6.out) HR6.out (HT.out.below HB6.out))
        clear ho6 hb6 hs6 hb6'
        go_wp2_with fail
        refine HCALL.out.mono ?_
        rintro e w7 hp
        obtain ⟨a7, m7, c7, rfl, hl7, hc7, hr7, hb7⟩ := hp
        have HB7 := Lib.hid (HB6.out.trans (hb7.mono HB6.out.size))
        obtain ⟨G, hG⟩ : ∃ G, putG l f ys = G := ⟨_, rfl⟩
        rw [hG] at hl7 hr7 ⊢
        have HGG : Hid (putG l f (ss ++ [(s : Int)]) = G) := Lib.hid (by rw [HYS.out]; exact hG)
        have HL7 := Lib.hid hl7
        have HR7 := Lib.hid hr7
        have HC7 := Lib.hid hc7
        clear hl7 hr7 hc7 hb7 hG HCALL
        cases G with
        | none =>
          have HT2 : Hid (tryS (putG l f) OKF ss (4 - (s + 1)) = R) := Lib.hid (by rw [← tryS_none hs4 HOS.out HGG.out]; exact HTS.out)
          go_wp2_with fail
          go_roundw
          case rel => exact ⟨s + 1, by omega, by go_num, HT2, HB7⟩
          case measure => simp [intOf]; omega
        | some t =>
          have HRT : Hid (putG l (f + 1) ss = some t) := Lib.hid (by rw [HRR.out, ← HTS.out]; exact tryS_some hs4 HOS.out HGG.out)
          go_wp2_with fail
          go_ret2
          exact putP_some HRT.out rfl HL7.out HC7.out HR7.out HB7.out
    · have HRN : Hid (putG l (f + 1) ss = none) := Lib.hid (by rw [HRR.out, ← HTS.out]; exact tryS_0 (by omega))
      go_wp2_with fail
      go_ret2
      exact putP_none HRN.out rfl HB.out
set_option maxHeartbeats 8000000 in
theorem spPut (l : List Mrk) (n : Nat) (hn : n ≤ 8) (hl : l.length = n) (hch : chrB l = true) : ∀ (f : Nat) (ss : List Int) (a b : Option Addr) (k c d : Nat) (w : World), ss.length = k → k + f = n → k ≤ d → Rd Mrk.enc 3 w a l → Rd eI 1 w b ss → Calls Tryd.prog 47 #[.slice a n c, .slice b k d] w (PutP l f ss w) := by
  intro f
  induction f with
  | zero =>
    intro ss a b k c d w hk hkf hkd ra rb
    obtain rfl : k = n := by omega
    have HK := Lib.hid hk
    have HRB := Lib.hid rb
    have dk : ((k : Int) == (k : Int)) = true := by simp
    clear ra rb hk hkf hch hl
    go_enter Tryd.func47, Tryd.ntmps47
    go_wp2_with fail
    go_ret2
    exact putP_some rfl rfl HK.out hkd HRB.out (Below.refl _ _)
  | succ f ih =>
    intro ss a b k c d w hk hkf hkd ra rb
    have HIH := Lib.hid ih
    have HL := Lib.hid hl
    have HK := Lib.hid hk
    have HRA := Lib.hid ra
    have HRB := Lib.hid rb
    have HALL := Lib.hid (chrB_parts hch).2
    have hkn : k < n := by omega
    have dk : ((k : Int) == (n : Int)) = false := by rw [beq_eq_false_iff_ne]; omega
    have dkn : (k == n) = false := by rw [beq_eq_false_iff_ne]; omega
    obtain ⟨m, hm⟩ : ∃ z, l[k]? = some z := ⟨_, List.getElem?_eq_getElem (by omega)⟩
    have hnx : nextM l ss = m := by unfold nextM; rw [hk]; simp [List.getD, hm]
    obtain ⟨OKF, hOK⟩ : ∃ z : Int → Bool, (fun s => frK l ss m s k) = z := ⟨_, rfl⟩
    obtain ⟨R, hR⟩ : ∃ R, putG l (f + 1) ss = R := ⟨_, rfl⟩
    have HRR := Lib.hid hR
    have HOK : Hid (∀ s, OKF s = frK l ss m s k) := Lib.hid fun s => by rw [← hOK]
    have HTR : Hid (tryS (putG l f) OKF ss (4 - 0) = R) := Lib.hid (by rw [← hR, ← hOK]; unfold putG; rw [hnx, hk])
    have HM := Lib.hid hm
    have HMO := Lib.hid (HALL.out k m hm).1
    obtain ⟨b1, o1, e1, C1⟩ := ra.addr (by omega)
    subst e1
    have HC1 := Lib.hid C1
    have HKF := Lib.hid hkf
    clear ih hl hk hch ra rb hm hnx hOK hR C1 hkf
    go_enter Tryd.func47, Tryd.ntmps47
    go_wp2_with fail
    clear dk dkn
    go_loopw [7] (fun sv wr => ∃ s : Nat, s ≤ 4 ∧ sv = .int .i64 s ∧ Hid (tryS (putG l f) OKF ss (4 - s) = R) ∧ Hid (Below w.heap.size w wr)) (fun sv _ => 4 - (intOf sv).toNat)
    case atStart => exact ⟨0, by omega, rfl, HTR, Lib.hid (Below.refl _ _)⟩
    case round =>
    obtain ⟨s, hs, rfl, HTS, HB⟩ := hrel
    obtain ⟨w1, hw1⟩ : ∃ wx, wx = wr := ⟨_, rfl⟩
    subst hw1
    clear HTR
    by_cases hs4 : s < 4
    · have c0 : w1.cell? ⟨b1, o1 + k * 3, none⟩ = some (.int .i64 m.x) := HC1.out k m HM.out w1 HB.out 0 _ rfl
      have c1 : w1.cell? ⟨b1, o1 + k * 3 + 1, none⟩ = some (.int .i64 m.y) := HC1.out k m HM.out w1 HB.out 1 _ rfl
      have c2 : w1.cell? ⟨b1, o1 + k * 3 + 2, none⟩ = some (.int .i64 m.mag) := HC1.out k m HM.out w1 HB.out 2 _ rfl
      have j0 : (0 : Int) ≤ (k : Nat) := by omega
      have j1 : ((k : Nat) : Int) < n := by omega
      have is1 : IntKind.i64.wrap ((s : Int) + 1) = (s : Int) + 1 := IntWalk.i64_in _ (by omega)
      go_wp2_with fail
      refine (spBox m HMO.out (s : Int) _).mono ?_
      rintro e w2 ⟨aM, rfl, hrm, hb2⟩
      have HRM := Lib.hid hrm
      have HB2 := Lib.hid (HB.out.trans (hb2.mono HB.out.size))
      have HLM := Lib.hid (boxM_bd HMO.out (s : Int)).1
      clear c0 c1 c2 hrm hb2
      go_wp2_with fail
      go_loopw [9, 10] (fun fv jv wr => ∃ (j : Nat) (fb : Bool), j ≤ k ∧ jv = .int .i64 j ∧ fv = .bool fb ∧ Hid (frK l ss m (s : Int) j = fb) ∧ Hid (Below w2.heap.size w2 wr)) (fun _ jv _ => k - (intOf jv).toNat)
      case atStart => exact ⟨0, true, Nat.zero_le _, rfl, rfl, Lib.hid rfl, Lib.hid (Below.refl _ _)⟩
      case round =>
      obtain ⟨j, fb, hj, rfl, rfl, HFR, HBj⟩ := hrel
      obtain ⟨w3, hw3⟩ : ∃ wx, wx = wr := ⟨_, rfl⟩
      subst hw3
      have HBW := Lib.hid (HB2.out.trans (HBj.out.mono HB2.out.size))
      by_cases hjk : j < k
      · obtain ⟨q, hq⟩ : ∃ z, l[j]? = some z := ⟨_, List.getElem?_eq_getElem (by rw [HL.out]; omega)⟩
        obtain ⟨y, hy⟩ : ∃ z, ss[j]? = some z := ⟨_, List.getElem?_eq_getElem (by rw [HK.out]; exact hjk)⟩
        have HQO := Lib.hid (HALL.out j q hq).1
        have HFN := Lib.hid (frK_step (m := m) (s := (s : Int)) hq hy)
        rw [HFR.out] at HFN
        obtain ⟨b2, o2, e2, C2⟩ := (HRB.out.below HBW.out).addr1 (f := fun x => Value.int .i64 x) (by rw [HK.out]; omega) (fun _ => rfl)
        subst e2
        have i0 : (0 : Int) ≤ (j : Nat) := by omega
        have i1 : ((j : Nat) : Int) < k := by omega
        have i2 : ((j : Nat) : Int) < n := by omega
        have y0 : w3.cell? ⟨b2, o2 + j, none⟩ = some (.int .i64 y) := C2 j y hy w3 (Below.refl _ _)
        have q0 : w3.cell? ⟨b1, o1 + j * 3, none⟩ = some (.int .i64 q.x) := HC1.out j q hq w3 HBW.out 0 _ rfl
        have q1 : w3.cell? ⟨b1, o1 + j * 3 + 1, none⟩ = some (.int .i64 q.y) := HC1.out j q hq w3 HBW.out 1 _ rfl
        have q2 : w3.cell? ⟨b1, o1 + j * 3 + 2, none⟩ = some (.int .i64 q.mag) := HC1.out j q hq w3 HBW.out 2 _ rfl
        have HSF : Hid (∀ wz, Below w3.heap.size w3 wz → wz.cell? ⟨b1, o1 + j * 3, none⟩ = some (.int .i64 q.x) ∧ wz.cell? ⟨b1, o1 + j * 3 + 1, none⟩ = some (.int .i64 q.y) ∧ wz.cell? ⟨b1, o1 + j * 3 + 2, none⟩ = some (.int .i64 q.mag) ∧ wz.cell? ⟨b2, o2 + j, none⟩ = some (.int .i64 y)) := Lib.hid fun wz hz => ⟨(hz.cell (lt_of_cell q0)).trans q0, (hz.cell (lt_of_cell q1)).trans q1, (hz.cell (lt_of_cell q2)).trans q2, (hz.cell (lt_of_cell y0)).trans y0⟩
        have HLQ := Lib.hid (boxM_bd HQO.out y).1
        obtain ⟨mb, hmb⟩ : ∃ z, meetB (boxM m (s : Int)) (boxM q y) = z := ⟨_, rfl⟩
        rw [hmb] at HFN
        have HMB := Lib.hid hmb
        clear hq hy C2 hmb
        cases fb with
        | false =>
          have HF2 : Hid (frK l ss m (s : Int) (j + 1) = false) := Lib.hid (by rw [HFN.out]; rfl)
          go_wp2_with fail
          go_quiet (fail)
          have hbq := below_drewN (Below.refl w3.heap.size w3) nq
          have HBD := Lib.hid (HBj.out.trans (hbq.mono HBj.out.size))
          clear hbq
          go_wp2_with fail
          go_roundw
          case rel => exact ⟨j + 1, false, by omega, by go_num, rfl, HF2, HBD⟩
          case measure => simp [intOf]; omega
        | true =>
          have HF2 : Hid (frK l ss m (s : Int) (j + 1) = !mb) := Lib.hid (by rw [HFN.out]; simp)
          have HDD : Hid (Below w3.heap.size w3 w3.drew) := Lib.hid (Below.refl _ _).drew
          clear y0 q0 q1 q2
          go_upto_region 12 with (fail)
          go_region_held3 (fun wq : World => wq.cell? ⟨b1, o1 + j * 3, none⟩ = some (.int .i64 q.x) ∧ wq.cell? ⟨b1, o1 + j * 3 + 1, none⟩ = some (.int .i64 q.y) ∧ wq.cell? ⟨b1, o1 + j * 3 + 2, none⟩ = some (.int .i64 q.mag) ∧ wq.cell? ⟨b2, o2 + j, none⟩ = some (.int .i64 y)) (first | (go_keep; done) | exact HSF.out _ HDD.out | exact HSF.out _ HA4.out | exact HSF.out _ HA5.out | fail)
            (first
              | (go_at_call 58; (with_reducible refine (spBox q HQO.out y w3.drew).mono ?_); rintro e w4 ⟨aQ, rfl, hrq, hb4⟩; have HA4 : Hid (Below w3.heap.size w3 w4) := Lib.hid (HDD.out.trans (hb4.mono HDD.out.size)); have HRQ := Lib.hid hrq; clear hrq hb4)
              | (go_at_call 57; (with_reducible refine (spMeet (boxM m (s : Int)) (boxM q y) aM aQ w4 HLM.out HLQ.out (HRM.out.below (HBj.out.trans (HA4.out.mono HBj.out.size))) HRQ.out).mono ?_); rintro e w5 ⟨rfl, hb5⟩; have HA5 : Hid (Below w3.heap.size w3 w5) := Lib.hid (HA4.out.trans (hb5.mono HA4.out.size)); clear hb5)
              | fail)
          all_goals
            rw [HMB.out]
            have HB5 := Lib.hid (HBj.out.trans (HA5.out.mono HBj.out.size))
            go_wp2_with fail
            go_roundw
            case rel => exact ⟨j + 1, !mb, by omega, by go_num, rfl, HF2, HB5⟩
            case measure => simp [intOf]; omega
      obtain rfl : k = j := by omega
      have HOS : Hid (OKF (s : Int) = fb) := Lib.hid (by rw [HOK.out]; exact HFR.out)
      cases fb with
      | false =>
        have HT2 : Hid (tryS (putG l f) OKF ss (4 - (s + 1)) = R) := Lib.hid (by rw [← tryS_skip hs4 HOS.out]; exact HTS.out)
        go_wp2_with fail
        go_roundw
        case rel => exact ⟨s + 1, by omega, by go_num, HT2, HBW⟩
        case measure => simp [intOf]; omega
      | true =>
        go_wp2_with fail
        refine (l00Own_any ss b k d _ (by omega) HK.out (HRB.out.below HBW.out)).mono ?_
        rintro e w4 ⟨a4, c4, rfl, ho4, hb4⟩
        have HO4 := Lib.hid ho4
        have HB4 := Lib.hid (HBW.out.trans (hb4.mono HBW.out.size))
        have hsz4 : w3.heap.size ≤ w4.heap.size := hb4.size
        obtain ⟨ys, hys⟩ : ∃ ys, ss ++ [(s : Int)] = ys := ⟨_, rfl⟩
        have HYS := Lib.hid hys
        have h63 : k + 1 ≤ maxLen := by unfold maxLen; omega
        have hby : (k + 1) * 8 ≤ 140737488355328 := by omega
        clear ho4 hb4 hys
        go_wp2_with (at_builtin; refine wpl_app eI_len (by decide) _ rfl (.tmp 54) (.tmp 56) 26 rfl 2 _ 8 rfl Tryd.underlying26 infoPu w3.heap.size (.slice a4 k c4) k _ rfl w4 _ _ rfl HO4.out (s : Int) rfl rfl (eI_one _) h63 hby hsz4 ys HYS ?_)
        intro a6 c6 w6 ho6 hb6 hs6
        have HR6 := Lib.hid (ho6.rd eI_len (by decide))
        have HC6 := Lib.hid ho6.caps.1
        have HL6 := Lib.hid (ho6.len eI_len (by decide))
        have hb6' : Below w3.heap.size w4 w6 := hb6
        have HB6 := Lib.hid (HB4.out.trans (hb6'.mono HBW.out.size))
        have HCALL := Lib.hid (HIH.out ys (some ⟨b1, o1, none⟩) a6 (k + 1) c c6 w6 HL6.out (by have := HKF.out; omega) HC6.out (HRA.out.below HB6.out) HR6.out)
        clear ho6 hb6 hs6 hb6'
        go_wp2_with fail
        refine HCALL.out.mono ?_
        rintro e w7 hp
        obtain ⟨a7, m7, c7, rfl, hl7, hc7, hr7, hb7⟩ := hp
        have HB7 := Lib.hid (HB6.out.trans (hb7.mono HB6.out.size))
        obtain ⟨G, hG⟩ : ∃ G, putG l f ys = G := ⟨_, rfl⟩
        rw [hG] at hl7 hr7 ⊢
        have HGG : Hid (putG l f (ss ++ [(s : Int)]) = G) := Lib.hid (by rw [HYS.out]; exact hG)
        have HL7 := Lib.hid hl7
        have HR7 := Lib.hid hr7
        have HC7 := Lib.hid hc7
        clear hl7 hr7 hc7 hb7 hG HCALL
        cases G with
        | none =>
          have HT2 : Hid (tryS (putG l f) OKF ss (4 - (s + 1)) = R) := Lib.hid (by rw [← tryS_none hs4 HOS.out HGG.out]; exact HTS.out)
          go_wp2_with fail
          go_roundw
          case rel => exact ⟨s + 1, by omega, by go_num, HT2, HB7⟩
          case measure => simp [intOf]; omega
        | some t =>
          have HRT : Hid (putG l (f + 1) ss = some t) := Lib.hid (by rw [HRR.out, ← HTS.out]; exact tryS_some hs4 HOS.out HGG.out)
          go_wp2_with fail
          go_ret2
          exact putP_some HRT.out rfl HL7.out HC7.out HR7.out HB7.out
    · have HRN : Hid (putG l (f + 1) ss = none) := Lib.hid (by rw [HRR.out, ← HTS.out]; exact tryS_0 (by omega))
      go_wp2_with fail
      go_ret2
      exact putP_none HRN.out rfl HB.out
end Go.Proofs.YtiledenbgdeglaaDoor
