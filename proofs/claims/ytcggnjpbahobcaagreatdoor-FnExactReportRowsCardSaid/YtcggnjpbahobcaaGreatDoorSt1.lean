/-
  The stars of estimates, in the reference.
-/
import Derived.Test.YtcggnjpbahobcaaGreatDoorStP
import Derived.Test.YtcggnjpbahobcaaGreatDoorEst3
import Derived.Sort.Walk0
import Derived.Deep.CutRange
import Derived.Deep.Light
namespace Go.Proofs.YtcggnjpbahobcaaGreatDoor
open Go.RowKit
set_option maxRecDepth 100000
set_option linter.unusedVariables false
set_option linter.unusedSimpArgs false
theorem infoSt : (Tryz.prog.info? 9).map (fun i => (i.zero, i.size, i.bytes)) = some (some (.string ByteArray.empty), 1, 16) := by kernel_rfl
/-- a row of texts -/
def RowN (w : World) (b o : Nat) (L : List ByteArray) : Prop := b < w.heap.size ∧ ∀ i x, L[i]? = some x → w.cell? ⟨b, o + i, none⟩ = some (.string x)
theorem RowN.below {w w' : World} {b o : Nat} {L : List ByteArray} (h : RowN w b o L) (hb : Below w.heap.size w w') : RowN w' b o L :=
  ⟨Nat.lt_of_lt_of_le h.1 hb.size, fun i x hx => (hb.cell (p := ⟨b, _, none⟩) h.1).trans (h.2 i x hx)⟩
theorem rowN {w : World} {a : Option Addr} {x : ByteArray} {L : List ByteArray} (h : Rd eS 1 w a (x :: L)) : ∃ b o, a = some ⟨b, o, none⟩ ∧ RowN w b o (x :: L) := by
  obtain ⟨b, o, ha, hlt, _⟩ := h.at1 (i := 0) (x := x) rfl rfl
  refine ⟨b, o, ha, hlt, fun i y hy => ?_⟩
  obtain ⟨b', o', ha', _, hc⟩ := h.at1 (i := i) hy rfl
  rw [ha] at ha'
  simp only [Option.some.injEq, Addr.mk.injEq, and_true] at ha'
  obtain ⟨rfl, rfl⟩ := ha'
  exact hc
theorem RowN.c0 {w : World} {b o : Nat} {x : ByteArray} {L : List ByteArray} (h : RowN w b o (x :: L)) : w.cell? ⟨b, o, none⟩ = some (.string x) := h.2 0 x rfl
theorem toLS (s : ByteArray) : s.toList = s.data.toList := ByteArray.toList_eq s
theorem Rd.takeS {w : World} {a : Option Addr} {xs : List ByteArray} (h : Rd eS 1 w a xs) (m : Nat) : Rd eS 1 w a (xs.take m) := fun i x hx => by
  rw [List.getElem?_take] at hx
  split at hx
  · exact h i x hx
  · cases hx
theorem RowN.drop {w : World} {b o : Nat} {L : List ByteArray} (h : RowN w b o L) (k : Nat) : Rd eS 1 w (some ⟨b, o + k, none⟩) (L.drop k) := fun i x hx => by
  rw [List.getElem?_drop] at hx
  refine ⟨b, o + k, rfl, h.1, fun j u hu => ?_⟩
  have hj : j = 0 := by
    cases j with
    | zero => rfl
    | succ j => simp [eS] at hu
  subst hj
  have hu : Value.string x = u := by simpa [eS] using hu
  rw [← hu, Nat.mul_one, Nat.add_zero, Nat.add_assoc]
  exact h.2 _ x hx
theorem bl_lt (s t : ByteArray) : Op.bytesLess s.toList t.toList = decide (s.data.toList < t.data.toList) := by rw [toLS, toLS]; exact bytesLess_eq _ _
theorem bl_yes {s t : ByteArray} (h : Lt s t) : Op.bytesLess s.toList t.toList = true := by rw [bl_lt]; exact decide_eq_true h
theorem bl_no {s t : ByteArray} (h : ¬ Lt s t) : Op.bytesLess s.toList t.toList = false := by rw [bl_lt]; exact decide_eq_false h
theorem ne_l {s t : ByteArray} (h : s ≠ t) : (s.toList == t.toList) = false := by rw [beq_eq_false_iff_ne]; intro e; rw [toLS, toLS] at e; exact h (ba_ext e)
set_option maxHeartbeats 4000000 in
theorem putName_any (L : List ByteArray) (x : ByteArray) (base g n c : Nat) (w : World) (hn : n ≤ 1000) (hbw : base ≤ w.heap.size) (h : Ow eS 1 w base 9 (.slice (some ⟨g, 0, none⟩) n c) n L) :
    Calls Tryz.prog 27 #[.slice (some ⟨g, 0, none⟩) n c, .string x] w fun e w' => ∃ g' n' c' K M, e = .returned (.slice (some ⟨g', 0, none⟩) n' c') ∧ n' ≤ n + 1 ∧ PutO L x K M ∧ Ow eS 1 w' base 9 (.slice (some ⟨g', 0, none⟩) n' c') n' M ∧ Below w.heap.size w w' := by
  have HOW := Lib.hid h
  have HL := Lib.hid (h.len eS_len (by decide))
  have hcap : n ≤ c := h.caps.1
  have HROW : Hid (∀ wq, Below w.heap.size w wq → ∀ i y, L[i]? = some y → wq.cell? ⟨g, i, none⟩ = some (.string y)) := Lib.hid fun wq hb i y hy => by
    obtain ⟨b, o, e, _, hc⟩ := ((h.below hb).rd eS_len (by decide)).at1 (i := i) hy rfl
    simp only [Option.some.injEq, Addr.mk.injEq, and_true] at e
    obtain ⟨rfl, rfl⟩ := e
    rw [Nat.zero_add] at hc
    exact hc
  have HTK : Hid (∀ wq, Below w.heap.size w wq → ∀ k, Rd eS 1 wq (some ⟨g, 0, none⟩) (L.take k)) := Lib.hid fun wq hb k => ((h.below hb).rd eS_len (by decide)).takeS k
  have HDR : Hid (∀ wq, Below w.heap.size w wq → ∀ k, Rd eS 1 wq (some ⟨g, k, none⟩) (L.drop k)) := Lib.hid fun wq hb k i y hy => by
    rw [List.getElem?_drop] at hy
    obtain ⟨b, o, e, hlt, hc⟩ := ((h.below hb).rd eS_len (by decide)).at1 (i := k + i) hy rfl
    simp only [Option.some.injEq, Addr.mk.injEq, and_true] at e
    obtain ⟨rfl, rfl⟩ := e
    refine ⟨g, k, rfl, hlt, fun j u hu => ?_⟩
    have hj : j = 0 := by
      cases j with
      | zero => rfl
      | succ j => simp [eS] at hu
    subst hj
    have hu : Value.string y = u := by simpa [eS] using hu
    rw [← hu, Nat.mul_one, Nat.add_zero]
    rw [Nat.zero_add] at hc
    exact hc
  clear h
  go_enter Tryz.func27, Tryz.ntmps27
  go_wp2_with fail
  go_loopw [5] (fun kv wr => ∃ (k : Nat) (kz : Int), k ≤ n ∧ kv = .int .i64 kz ∧ Hid (kz = (k : Int)) ∧ Hid (∀ i y, k ≤ i → L[i]? = some y → Lt x y) ∧ Hid (w = wr)) (fun kv _ => (intOf kv).toNat)
  case atStart => exact ⟨n, _, Nat.le_refl _, rfl, Lib.hid rfl, Lib.hid fun i y hi hy => absurd (List.getElem?_eq_some_iff.1 hy).1 (by rw [HL.out]; omega), Lib.hid rfl⟩
  case round =>
    obtain ⟨k, kz, hk, rfl, HK, HA, HW⟩ := hrel
    have hw := HW.out
    subst hw
    have hkz := HK.out
    subst hkz
    clear HW HK
    have hck : k ≤ c := by omega
    by_cases hk0 : k = 0
    · subst hk0
      obtain ⟨M, hM⟩ : ∃ M, L.take 0 ++ (x :: L.drop 0) = M := ⟨_, rfl⟩
      have HM : Hid (PutO L x 0 M) := Lib.hid ⟨Nat.zero_le _, HA.out, fun _ h => absurd h (by omega), by rw [if_neg (fun h => absurd h.1 (by omega)), hM]⟩
      have HME := Lib.hid hM
      clear hM
      have HO0 := Lib.hid (Ow.built eS 1 w 9)
      have HB0 := Lib.hid (below_built w 9)
      obtain ⟨w0, hw0⟩ : ∃ z, w.alloc (.cells #[] 9) = z := ⟨_, rfl⟩
      rw [hw0] at HO0 HB0
      have HW0 := Lib.hid hw0
      clear hw0
      have hsz : w.heap.size ≤ w0.heap.size := HB0.out.size
      go_upto_region 7 with (fail)
      rw [HW0.out]
      have HB1 := HB0
      have hsz1 := hsz
      have h63 : 0 + 1 ≤ maxLen := by unfold maxLen; omega
      have hby : (0 + 1) * 16 ≤ 140737488355328 := by omega
      obtain ⟨L2, hL2⟩ : ∃ L2, [] ++ [x] = L2 := ⟨_, rfl⟩
      have HY2 := Lib.hid hL2
      clear hL2
      go_wp2_with (at_builtin; refine wpl_app eS_len (by decide) _ rfl (.tmp 39) (.tmp 41) 38 rfl 9 (.string ByteArray.empty) 16 rfl Tryz.underlying38 infoSt w.heap.size _ (0) _ rfl w0 _ _ rfl HO0.out x rfl rfl (eS_one _) h63 hby hsz1 L2 HY2 ?_)
      intro a2 c2 w2 ho2 hb2 hs2
      have HO2 := Lib.hid ho2
      have HB2 := Lib.hid (HB1.out.trans hb2)
      clear ho2 hb2 hs2 h63 hby
      have hsz2 : w.heap.size ≤ w2.heap.size := HB2.out.size
      have h63 : 0 + 1 + (n - 0) ≤ maxLen := by unfold maxLen; omega
      have hby : (0 + 1 + (n - 0)) * 16 ≤ 140737488355328 := by omega
      have hld : (L.drop 0).length = n - 0 := by rw [List.length_drop, HL.out]
      have HR2 := HDR.out w2 HB2.out 0
      have HY3 : Hid (L2 ++ L.drop 0 = M) := Lib.hid (by rw [← HY2.out, ← HME.out]; simp)
      rw [Nat.sub_zero] at h63 hby hld
      go_upto_region 8 with (fail)
      go_wp2_with (at_builtin; refine wpl_apps eS_len (by decide) eS_one _ rfl (.tmp 43) (.tmp 46) 38 rfl 9 (.string ByteArray.empty) 16 rfl Tryz.underlying38 infoSt w.heap.size _ (0 + 1) _ rfl HO2.out (L.drop 0) n hld _ _ rfl HR2 h63 hby hsz2 _ HY3 ?_)
      intro a3 c3 w3 ho3 hb3
      have HO3 := Lib.hid ho3
      have HB3 := Lib.hid (HB2.out.trans hb3)
      clear ho3 hb3
      obtain ⟨g3, hg3, _, _⟩ := HO3.out.at_ (by omega)
      subst hg3
      go_wp2_with fail
      go_ret
      exact ⟨g3, _, c3, 0, M, rfl, by omega, HM.out, HO3.out.mono hbw, HB3.out⟩
    · obtain ⟨y, hy⟩ : ∃ y, L[k - 1]? = some y := ⟨_, List.getElem?_eq_getElem (by rw [HL.out]; omega)⟩
      have cy : w.cell? ⟨g, k - 1, none⟩ = some (.string y) := HROW.out w (Below.refl _ _) _ y hy
      have d1 : (0 : Int) < (k : Int) := by omega
      have d2 : IntKind.i64.wrap ((k : Int) - 1) = (k : Int) - 1 := IntWalk.i64_in _ (by omega)
      have d3 : (0 : Int) ≤ (k : Int) - 1 := by omega
      have d4 : (k : Int) - 1 < (n : Int) := by omega
      have d5 : ((k : Int) - 1).toNat = k - 1 := by omega
      have HY := Lib.hid hy
      clear hy
      by_cases hgt : Lt x y
      · have e1 := bl_no (s := y) (t := x) fun h => Lt.irr _ (hgt.tr h)
        have e2 := ne_l (s := y) (t := x) fun e => Lt.irr _ (e ▸ hgt)
        have HA2 : Hid (∀ i z, k - 1 ≤ i → L[i]? = some z → Lt x z) := Lib.hid fun i z hi hz => by
          by_cases hik : i = k - 1
          · rw [hik, HY.out] at hz
            injection hz with hz
            rw [← hz]; exact hgt
          · exact HA.out i z (by omega) hz
        have HKZ : Hid ((k : Int) - 1 = ((k - 1 : Nat) : Int)) := Lib.hid (by omega)
        clear hgt
        go_wp2_with fail
        go_roundw
        case rel => exact ⟨k - 1, _, by omega, rfl, HKZ, HA2, by first | exact Lib.hid rfl | exact Lib.hid trivial⟩
        case measure => simp [intOf]; omega
      · by_cases heq : y = x
        · have e1 := bl_no (s := y) (t := x) fun h => hgt.elim (by rw [heq] at h; exact absurd h (Lt.irr _))
          have e2 : (y.toList == x.toList) = true := by rw [heq]; simp
          have HM : Hid (PutO L x k L) := Lib.hid ⟨by rw [HL.out]; exact hk, HA.out, fun z _ hz => by rw [HY.out] at hz; injection hz with hz; rw [← hz]; exact hgt, by rw [if_pos ⟨by omega, by rw [HY.out, heq]⟩]⟩
          clear hgt heq
          go_wp2_with fail
          go_ret
          exact ⟨g, n, c, k, L, rfl, by omega, HM.out, HOW.out, Below.refl _ _⟩
        · have hlt : Lt y x := by
            rcases Classical.em (Lt y x) with e | e
            · exact e
            · exact absurd (Lt.tri e hgt) heq
          have e1 := bl_yes hlt
          have e2 := ne_l heq
          obtain ⟨M, hM⟩ : ∃ M, L.take k ++ (x :: L.drop k) = M := ⟨_, rfl⟩
          have HM : Hid (PutO L x k M) := Lib.hid ⟨by rw [HL.out]; exact hk, HA.out, fun z _ hz => by rw [HY.out] at hz; injection hz with hz; rw [← hz]; exact hgt, by rw [if_neg (fun h => heq (by have := h.2; rw [HY.out] at this; injection this)), hM]⟩
          have HME := Lib.hid hM
          clear hM hgt heq hlt
          have HO0 := Lib.hid (Ow.built eS 1 w 9)
          have HB0 := Lib.hid (below_built w 9)
          obtain ⟨w0, hw0⟩ : ∃ z, w.alloc (.cells #[] 9) = z := ⟨_, rfl⟩
          rw [hw0] at HO0 HB0
          have HW0 := Lib.hid hw0
          clear hw0
          have hsz : w.heap.size ≤ w0.heap.size := HB0.out.size
          have hlk : (L.take k).length = k := by rw [List.length_take, HL.out]; omega
          have HR0 := HTK.out w0 HB0.out k
          have h63 : 0 + k ≤ maxLen := by unfold maxLen; omega
          have hby : (0 + k) * 16 ≤ 140737488355328 := by omega
          obtain ⟨L1, hL1⟩ : ∃ L1, L.take k = L1 := ⟨_, rfl⟩
          rw [hL1] at hlk HR0
          have HL1 := Lib.hid hL1
          clear hL1
          have HY0 : Hid (([] : List ByteArray) ++ L1 = L1) := Lib.hid (List.nil_append _)
          have HO0o := HO0.out
          go_upto_region 6 with (fail)
          go_wp2_with (at_builtin; refine wpl_apps eS_len (by decide) eS_one _ rfl (.tmp 34) (.tmp 37) 38 rfl 9 (.string ByteArray.empty) 16 rfl Tryz.underlying38 infoSt w.heap.size _ 0 [] rfl (by rw [HW0.out]; exact HO0o) L1 k hlk _ _ rfl (by rw [HW0.out]; exact HR0) h63 hby (by rw [HW0.out]; exact hsz) _ HY0 ?_)
          intro a1 c1 w1 ho1 hb1
          have HO1 := Lib.hid ho1
          have HB1 := Lib.hid (HB0.out.trans (by rw [HW0.out] at hb1; exact hb1))
          clear ho1 hb1 h63 hby hlk HR0 HO0o
          have hsz1 : w.heap.size ≤ w1.heap.size := HB1.out.size
          have h63 : k + 1 ≤ maxLen := by unfold maxLen; omega
          have hby : (k + 1) * 16 ≤ 140737488355328 := by omega
          obtain ⟨L2, hL2⟩ : ∃ L2, L1 ++ [x] = L2 := ⟨_, rfl⟩
          have HY2 := Lib.hid hL2
          clear hL2
          go_wp2_with (at_builtin; refine wpl_app eS_len (by decide) _ rfl (.tmp 39) (.tmp 41) 38 rfl 9 (.string ByteArray.empty) 16 rfl Tryz.underlying38 infoSt w.heap.size _ (k) _ rfl w1 _ _ rfl HO1.out x rfl rfl (eS_one _) h63 hby hsz1 L2 HY2 ?_)
          intro a2 c2 w2 ho2 hb2 hs2
          have HO2 := Lib.hid ho2
          have HB2 := Lib.hid (HB1.out.trans hb2)
          clear ho2 hb2 hs2 h63 hby
          have hsz2 : w.heap.size ≤ w2.heap.size := HB2.out.size
          have h63 : k + 1 + (n - k) ≤ maxLen := by unfold maxLen; omega
          have hby : (k + 1 + (n - k)) * 16 ≤ 140737488355328 := by omega
          have hld : (L.drop k).length = n - k := by rw [List.length_drop, HL.out]
          have HR2 := HDR.out w2 HB2.out k
          have HY3 : Hid (L2 ++ L.drop k = M) := Lib.hid (by rw [← HY2.out, ← HL1.out, ← HME.out]; simp)
          go_upto_region 8 with (fail)
          by_cases hck2 : c = k
          · have HR3 : Rd eS 1 w2 (some ⟨g, 0, none⟩) (L.drop k) := by rw [List.drop_of_length_le (by rw [HL.out]; omega)]; exact Rd.nil _ _ _ _
            go_wp2_with (at_builtin; refine wpl_apps eS_len (by decide) eS_one _ rfl (.tmp 43) (.tmp 46) 38 rfl 9 (.string ByteArray.empty) 16 rfl Tryz.underlying38 infoSt w.heap.size _ (k + 1) _ rfl HO2.out (L.drop k) (n - k) hld _ _ rfl HR3 h63 hby hsz2 _ HY3 ?_)
            intro a3 c3 w3 ho3 hb3
            have HO3 := Lib.hid ho3
            have HB3 := Lib.hid (HB2.out.trans hb3)
            clear ho3 hb3
            obtain ⟨g3, hg3, _, _⟩ := HO3.out.at_ (by omega)
            subst hg3
            go_wp2_with fail
            go_ret
            exact ⟨g3, _, c3, k, M, rfl, by omega, HM.out, HO3.out.mono hbw, HB3.out⟩
          · have hck3 : ¬ k = c := fun e => hck2 e.symm
            go_wp2_with (at_builtin; refine wpl_apps eS_len (by decide) eS_one _ rfl (.tmp 43) (.tmp 46) 38 rfl 9 (.string ByteArray.empty) 16 rfl Tryz.underlying38 infoSt w.heap.size _ (k + 1) _ rfl HO2.out (L.drop k) (n - k) hld _ _ rfl HR2 h63 hby hsz2 _ HY3 ?_)
            intro a3 c3 w3 ho3 hb3
            have HO3 := Lib.hid ho3
            have HB3 := Lib.hid (HB2.out.trans hb3)
            clear ho3 hb3
            obtain ⟨g3, hg3, _, _⟩ := HO3.out.at_ (by omega)
            subst hg3
            go_wp2_with fail
            go_ret
            exact ⟨g3, _, c3, k, M, rfl, by omega, HM.out, HO3.out.mono hbw, HB3.out⟩
end Go.Proofs.YtcggnjpbahobcaaGreatDoor
