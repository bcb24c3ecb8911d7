/-
  The best assignment.
-/
import Derived.Test.YtkbcjegfobngaaaDoorAs7
namespace Go.Proofs.YtkbcjegfobngaaaDoor
open Go.RowKit
set_option maxRecDepth 100000
set_option linter.unusedVariables false
set_option linter.unusedSimpArgs false
set_option maxHeartbeats 8000000 in
theorem bestA (m n : Nat) (rs : List GRow) (a : Option Addr) (c : Nat) (w : World) (hw : WtQ m n rs) (hg : GrR w a rs) : Calls Tryd.prog 6 #[.slice a m c] w fun e w' => ∃ (a' : Option Addr) (c' : Nat) (A : List Int), e = .returned (.tuple #[.slice a' m c', .int .i64 0]) ∧ m ≤ c' ∧ AsQ m n A ∧ sumN (trm (wF rs) A) m = VT (wF rs) m n m 0 ∧ Rd eI 1 w' a' A ∧ Below w.heap.size w w' := by
  have HW := Lib.hid hw
  have HG := Lib.hid hg
  have hn4 := hw.n4
  have hm4 := hw.m4
  have hm1 := hw.m1
  obtain ⟨S, hS⟩ : ∃ z, 2 ^ n = z := ⟨_, rfl⟩
  have hS16 : S ≤ 16 := by rw [← hS]; exact Nat.pow_le_pow_right (by decide) hn4
  have HSS := Lib.hid hS
  clear hw hg hS
  go_enter Tryd.func6, Tryd.ntmps6
  go_wp2_with fail
  refine (validWA m n rs a c _ HW.out HG.out).mono ?_
  rintro e w1 ⟨rfl, hb1⟩
  have HG1 := Lib.hid (HG.out.below hb1)
  have HB1 := Lib.hid hb1
  clear hb1
  go_wp2_with fail
  refine (tableA m n rs a c _ HW.out HG1.out).mono ?_
  rintro e w2 ⟨a2, c2, rfl, hT, hb2⟩
  obtain ⟨bt, ot, rfl, hT2⟩ := hT.get
  have HTT := Lib.hid hT2
  have HG2 := Lib.hid (HG1.out.below hb2)
  have HB2 := Lib.hid (HB1.out.trans (hb2.mono HB1.out.size))
  have hG := Ow.built eI 1 w2 2
  have hbA := below_built w2 2
  obtain ⟨w3, hw3⟩ : ∃ wx, w2.alloc (.cells #[] 2) = wx := ⟨_, rfl⟩
  obtain ⟨B, hB⟩ : ∃ gx, w2.heap.size = gx := ⟨_, rfl⟩
  have hB3 : B ≤ w3.heap.size := by rw [← hw3, ← hB]; simp
  rw [hw3] at hG hbA
  rw [hB] at hG
  have HO3 := Lib.hid hG
  have HB3 := Lib.hid hbA
  have HW3 := Lib.hid hw3
  have HBB := Lib.hid hB
  obtain ⟨M1, hM1⟩ : ∃ z, m + 1 = z := ⟨_, rfl⟩
  have HM1 := Lib.hid hM1
  rw [hM1]
  obtain ⟨b0, oo, hab, hC⟩ := HG2.out.1.addr1 (f := fun r : GRow => Value.slice r.a r.n r.c) (by rw [HW.out.len]; omega) (fun _ => rfl)
  subst hab
  have HC := Lib.hid hC
  clear hb2 hT hT2 hG hbA hw3 hB hM1 hC
  go_upto_region 4 with (fail)
  rw [HW3.out, HBB.out]
  clear HW3
  go_wp2_with fail
  go_loopw [5, 6, 20] (fun tv ov iv wr => ∃ (k T : Nat) (A : List Int) (a' : Option Addr) (c' : Nat), k ≤ m ∧ iv = .int .i64 k ∧ tv = .int .i64 T ∧ ov = .slice a' k c' ∧ Hid (BesI (wF rs) m n A T) ∧ Hid (A.length = k) ∧ Hid (Ow eI 1 wr B 2 (.slice a' k c') k A) ∧ B ≤ wr.heap.size ∧ Hid (Below w2.heap.size w2 wr)) (fun _ _ iv _ => m - (intOf iv).toNat)
  case atStart => exact ⟨0, 0, [], _, _, Nat.zero_le _, rfl, rfl, rfl, Lib.hid (BesI.zero _ _ _), Lib.hid rfl, HO3, hB3, HB3⟩
  case round =>
  obtain ⟨k, T, A, a', c', hk, rfl, rfl, rfl, HBE, HAL, HOA, hBr, HBk⟩ := hrel
  obtain ⟨wA, hwA⟩ : ∃ wx, wx = wr := ⟨_, rfl⟩
  subst hwA
  clear HO3 HB3
  by_cases hlt : k < m
  · have hTS : T < S := by have := HBE.out.lt; rw [HSS.out] at this; exact this
    obtain ⟨b1, o1, c1, u1, u2⟩ := HTT.out k (by omega)
    obtain ⟨b2, o2, c2', u3, u4⟩ := HTT.out (k + 1) (by omega)
    rw [HSS.out] at u1 u2 u3 u4
    have HU3 := Lib.hid u3
    have HU4 := Lib.hid u4
    have y1 := u1 wA HBk.out
    have y2 := u2 T hTS wA HBk.out
    have y3 := u3 wA HBk.out
    have y4 := u4 T hTS wA HBk.out
    obtain ⟨du, hdu⟩ : ∃ z, VT (wF rs) m n (m - k) T = z := ⟨_, rfl⟩
    obtain ⟨nx, hnx⟩ : ∃ z, VT (wF rs) m n (m - (k + 1)) T = z := ⟨_, rfl⟩
    rw [hdu] at y2
    rw [hnx] at y4
    have HDU := Lib.hid hdu
    have HNX := Lib.hid hnx
    obtain ⟨ri, hri, f1, f2, f3⟩ := HW.out.at_ hlt
    have y5 : wA.cell? ⟨b0, oo + k, none⟩ = some (.slice ri.a ri.n ri.c) := HC.out k ri hri wA HBk.out
    rw [f1] at y5
    have v2 := ((HG2.out.below HBk.out).2 ri (List.mem_of_getElem? hri)).1
    have hn1 := HW.out.n1
    obtain ⟨b3, o3, hab3, hC3⟩ := v2.addr1 (f := fun x => Value.int .i64 x) (by rw [f2]; omega) (fun _ => rfl)
    rw [hab3] at y5
    have HC3 := Lib.hid hC3
    have HRI := Lib.hid hri
    have HF2 := Lib.hid f2
    have HF3 := Lib.hid f3
    have j0 : (0 : Int) ≤ (k : Nat) := by omega
    have j1 : ((k : Nat) : Int) < (m : Nat) := by omega
    have j2 : ((k : Nat) : Int) < (M1 : Nat) := by have := HM1.out; omega
    have j3 : ((k : Nat) : Int) + 1 < (M1 : Nat) := by have := HM1.out; omega
    have j4 : (0 : Int) ≤ ((k : Nat) : Int) + 1 := by omega
    have j5 : (((k : Nat) : Int) + 1).toNat = k + 1 := by omega
    have jT0 : (0 : Int) ≤ (T : Nat) := by omega
    have jT1 : ((T : Nat) : Int) < (S : Nat) := by omega
    have h63 : k + 1 ≤ maxLen := by unfold maxLen; omega
    have hby : (k + 1) * 8 ≤ 140737488355328 := by omega
    have hwB : w2.heap.size ≤ B := by rw [HBB.out]; exact Nat.le_refl _
    clear u1 u2 u3 u4 hdu hnx hri f1 f2 f3 v2 hab3 hC3
    by_cases heq : nx = du
    · have de : (nx == du) = true := beq_iff_eq.2 heq
      obtain ⟨ys, hys⟩ : ∃ ys, A ++ [(-1 : Int)] = ys := ⟨_, rfl⟩
      have HYS := Lib.hid hys
      have HBN : Hid (BesI (wF rs) m n ys T) := Lib.hid (by
        rw [← hys]
        have hal := HAL.out
        subst hal
        exact HBE.out.none hlt (by rw [HNX.out, HDU.out, heq]))
      have HYL : Hid (ys.length = k + 1) := Lib.hid (by rw [← hys, List.length_append, HAL.out]; rfl)
      clear heq hys
      go_wp2_with (at_builtin; refine wpl_app eI_len (by decide) _ rfl (.tmp 42) (.tmp 43) 26 rfl 2 _ 8 rfl Tryd.underlying26 infoAs B _ k _ rfl wA _ _ rfl HOA.out (-1 : Int) rfl rfl (eI_one _) h63 hby hBr ys HYS ?_)
      intro a6 c6 w6 ho6 hb6 hs6
      have HO6 := Lib.hid ho6
      have HB6 := Lib.hid (HBk.out.trans (hb6.mono hwB))
      have hB6 : B ≤ w6.heap.size := by omega
      clear ho6 hb6 hs6
      go_wp2_with fail
      go_roundw
      case rel => exact ⟨k + 1, T, ys, a6, c6, by omega, by go_num, rfl, rfl, HBN, HYL, HO6, hB6, HB6⟩
      case measure => simp [intOf]; omega
    · have de : (nx == du) = false := beq_eq_false_iff_ne.2 heq
      have HEQ := Lib.hid heq
      clear heq
      go_wp2_with fail
      clear de y1 y2 y3 y4 y5
      go_loopw [5, 6, 47] (fun tv ov kv wr => ∃ q : Nat, q ≤ n ∧ kv = .int .i64 q ∧ tv = .int .i64 T ∧ ov = .slice a' k c' ∧ Hid (∀ z : Nat, z < q → T.testBit z = false → wF rs k z + VT (wF rs) m n (m - (k + 1)) (T ||| 2 ^ z) ≠ du) ∧ Hid (Below wA.heap.size wA wr)) (fun _ _ kv _ => n - (intOf kv).toNat)
      case atStart => exact ⟨0, Nat.zero_le _, rfl, rfl, rfl, Lib.hid (fun z hz => by omega), Lib.hid (Below.refl _ _)⟩
      case round =>
      obtain ⟨q, hq, rfl, rfl, rfl, HNO, HBq⟩ := hrel
      obtain ⟨wC, hwC⟩ : ∃ wx, wx = wr := ⟨_, rfl⟩
      subst hwC
      by_cases hqn : q < n
      case neg =>
        exfalso
        have hal := HAL.out
        subst hal
        obtain ⟨z, p1, p2, p3⟩ := BesI.some (w := wF rs) (m := m) (n := n) (j := A.length) (S := T) hlt (by rw [HNX.out, HDU.out]; exact HEQ.out)
        exact HNO.out z (by omega) p2 (by rw [p3, HDU.out])
      obtain ⟨x, hx⟩ : ∃ z, ri.xs[q]? = some z := ⟨_, List.getElem?_eq_getElem (by rw [HF2.out]; exact hqn)⟩
      have y6 : wC.cell? ⟨b3, o3 + q, none⟩ = some (.int .i64 x) := HC3.out q x hx wC HBq.out
      have hwx : wF rs k q = x := wF_eq HRI.out hx
      have hxb := HF3.out x (List.mem_of_getElem? hx)
      have jq0 : (0 : Int) ≤ (q : Nat) := by omega
      have jq1 : ((q : Nat) : Int) < (n : Nat) := by omega
      have hband := and_bit T (by omega) q (by omega)
      have hbqB := HBk.out.trans (HBq.out.mono HBk.out.size)
      have HBQ := Lib.hid hbqB
      have hBC : B ≤ wC.heap.size := Nat.le_trans hBr HBq.out.size
      clear hx hbqB
      cases hf : T.testBit q with
      | true =>
        rw [hf] at hband
        have hband' : (bits BinOp.and IntKind.i64 ((T : Int) / 2 ^ q) 1 == 0) = false := hband
        have HNO2 : Hid (∀ z : Nat, z < q + 1 → T.testBit z = false → wF rs k z + VT (wF rs) m n (m - (k + 1)) (T ||| 2 ^ z) ≠ du) := Lib.hid fun z hz hz2 => by
          by_cases e9 : z = q
          · subst e9; rw [hf] at hz2; cases hz2
          · exact HNO.out z (by omega) hz2
        clear hf hband hwx
        go_wp2_with fail
        go_region
        have hbq : Below wC.heap.size wC wC.drew := (Below.refl wC.heap.size wC).drew
        have HBD := Lib.hid (HBq.out.trans (hbq.mono HBq.out.size))
        clear hbq
        go_wp2_with fail
        go_roundw
        case rel => exact ⟨q + 1, by omega, by go_num, rfl, rfl, HNO2, HBD⟩
        case measure => simp [intOf]; omega
      | false =>
        rw [hf] at hband
        have hband' : (bits BinOp.and IntKind.i64 ((T : Int) / 2 ^ q) 1 == 0) = true := hband
        have HF := Lib.hid hf
        have hbor := or_bit T (by omega) q (by omega)
        have hTS2 : T ||| 2 ^ q < S := by rw [← HSS.out]; exact Nat.or_lt_two_pow (by rw [HSS.out]; exact hTS) (Nat.pow_lt_pow_right (by omega) hqn)
        obtain ⟨T2, hT2⟩ : ∃ z, T ||| 2 ^ q = z := ⟨_, rfl⟩
        rw [hT2] at hbor hTS2
        have HT2 := Lib.hid hT2
        have y3 := HU3.out wC HBQ.out
        have y4 := HU4.out T2 hTS2 wC HBQ.out
        obtain ⟨nb0, nb1⟩ := VT_bd (m := m) (n := n) (B := 11) (fun i k => HW.out.bd i k) (m - (k + 1)) T2
        obtain ⟨n2, hn2⟩ : ∃ z, VT (wF rs) m n (m - (k + 1)) T2 = z := ⟨_, rfl⟩
        rw [hn2] at y4 nb0 nb1
        have HN2 := Lib.hid hn2
        have HWX := Lib.hid hwx
        have i2 : IntKind.i64.wrap (x + n2) = x + n2 := IntWalk.i64_in _ (by have : ((m - (k + 1) : Nat) : Int) * 11 ≤ 44 := by omega
                                                                             omega)
        obtain ⟨ip1, ip2⟩ := pow_i64 (n := q) (by omega)
        have ip3 : IntKind.i64.wrap ((2 : Int) ^ q) = 2 ^ q := by rw [ip2]; simp
        have ip4 : wrap64 ((2 : Int) ^ q) = 2 ^ q := by rw [ip1]; simp
        have jT20 : (0 : Int) ≤ (T2 : Nat) := by omega
        have jT21 : ((T2 : Nat) : Int) < (S : Nat) := by omega
        clear hf hband hT2 hn2 hwx ip1 ip2
        by_cases hhit : x + n2 = du
        · have dh : (x + n2 == du) = true := beq_iff_eq.2 hhit
          obtain ⟨ys, hys⟩ : ∃ ys, A ++ [(q : Int)] = ys := ⟨_, rfl⟩
          have HYS := Lib.hid hys
          have HBN : Hid (BesI (wF rs) m n ys T2) := Lib.hid (by
            rw [← hys, ← HT2.out]
            have hal := HAL.out
            subst hal
            exact HBE.out.star hlt hqn HF.out (by rw [HWX.out, HT2.out, HN2.out, HDU.out]; exact hhit))
          have HYL : Hid (ys.length = k + 1) := Lib.hid (by rw [← hys, List.length_append, HAL.out]; rfl)
          clear hhit hys
          go_wp2_with fail
          go_region
          have hbq : Below wC.heap.size wC wC.drew := (Below.refl wC.heap.size wC).drew
          have HOQ := Lib.hid ((HOA.out.below HBq.out).below hbq)
          have HBR := Lib.hid (HBQ.out.trans (hbq.mono HBQ.out.size))
          have hBR2 : B ≤ (wC.drew).heap.size := Nat.le_trans hBC hbq.size
          obtain ⟨wE, hwE⟩ : ∃ wx, wC.drew = wx := ⟨_, rfl⟩
          rw [hwE] at HOQ HBR hBR2 ⊢
          clear hbq hwE y3 y4 y6
          go_wp2_with (at_builtin; refine wpl_app eI_len (by decide) _ rfl (.tmp 74) (.tmp 76) 26 rfl 2 _ 8 rfl Tryd.underlying26 infoAs B _ k _ rfl wE _ _ rfl HOQ.out (q : Int) rfl rfl (eI_one _) h63 hby hBR2 ys HYS ?_)
          intro a6 c6 w6 ho6 hb6 hs6
          have HO6 := Lib.hid ho6
          have HB6 := Lib.hid (HBR.out.trans (hb6.mono hwB))
          have hB6 : B ≤ w6.heap.size := by omega
          clear ho6 hb6 hs6
          go_wp2_with fail
          go_roundw
          case rel => exact ⟨k + 1, T2, ys, a6, c6, by omega, by go_num, rfl, rfl, HBN, HYL, HO6, hB6, HB6⟩
          case measure => simp [intOf]; omega
        · have dh : (x + n2 == du) = false := beq_eq_false_iff_ne.2 hhit
          have HNO2 : Hid (∀ z : Nat, z < q + 1 → T.testBit z = false → wF rs k z + VT (wF rs) m n (m - (k + 1)) (T ||| 2 ^ z) ≠ du) := Lib.hid fun z hz hz2 => by
            by_cases e9 : z = q
            · subst e9; rw [HWX.out, HT2.out, HN2.out]; exact hhit
            · exact HNO.out z (by omega) hz2
          clear hhit
          go_wp2_with fail
          go_region
          have hbq : Below wC.heap.size wC wC.drew := (Below.refl wC.heap.size wC).drew
          have HBD := Lib.hid (HBq.out.trans (hbq.mono HBq.out.size))
          clear hbq
          go_wp2_with fail
          go_roundw
          case rel => exact ⟨q + 1, by omega, by go_num, rfl, rfl, HNO2, HBD⟩
          case measure => simp [intOf]; omega
  · obtain rfl : m = k := by omega
    obtain ⟨p1, p2⟩ := HBE.out.done HAL.out
    have P1 := Lib.hid p1
    have P2 := Lib.hid p2
    have HRA := Lib.hid (HOA.out.rd eI_len (by decide))
    have HCP := Lib.hid HOA.out.caps.1
    have HBF := Lib.hid (HB2.out.trans (HBk.out.mono HB2.out.size))
    clear p1 p2
    go_wp2_with fail
    go_ret2
    exact ⟨_, _, A, rfl, HCP.out, P1.out, P2.out, HRA.out, HBF.out⟩
end Go.Proofs.YtkbcjegfobngaaaDoor
