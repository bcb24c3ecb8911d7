/-
  The reading of a magnitude's text.
-/
import Derived.Test.YtomlhicpjchdoaaGreatDoorRdP
import Derived.Test.YtomlhicpjchdoaaGreatDoorMax
import Derived.Test.YtomlhicpjchdoaaGreatDoorBx
import Derived.Lib.ConvBytes
namespace Go.Proofs.YtomlhicpjchdoaaGreatDoor
open Go.RowKit
set_option maxRecDepth 100000
set_option linter.unusedVariables false
set_option linter.unusedSimpArgs false
theorem bytes_back (s : ByteArray) : (⟨s.data.toList.toArray⟩ : ByteArray) = s := by simp
set_option maxHeartbeats 1000000 in
theorem cutPreL_no (s : ByteArray) (w : World) (h : Lib.hasPrefix s.data.toList [45] = false) : Calls Tryz.prog 38 #[.string s, .string ⟨#[45]⟩] w fun e w' => e = .returned (.tuple #[.string s, .bool false]) ∧ w = w' := by
  have HC : Hid (Calls Tryz.prog 47 #[.string s, .string ⟨#[45]⟩] w fun e w' => e = .returned (.bool false) ∧ w' = w) := Lib.hid (by have h9 := Shstringslite_HasPrefix s ⟨#[45]⟩ w; rw [show Lib.hasPrefix s.data.toList (⟨#[45]⟩ : ByteArray).data.toList = false from h] at h9; exact h9)
  clear h
  go_enter Tryz.func38, Tryz.ntmps38
  go_wp2_with fail
  refine HC.out.mono ?_
  rintro e w1 ⟨rfl, rfl⟩
  go_wp2_with fail
  go_ret2
  exact ⟨rfl, rfl⟩
theorem ext_tail (D : ByteArray) : ((⟨#[45]⟩ : ByteArray) ++ D).extract 1 ((⟨#[45]⟩ : ByteArray) ++ D).size = D := by
  have h1 : ((⟨#[45]⟩ : ByteArray) ++ D).size = 1 + D.data.size := by rw [ByteArray.size_append]; rfl
  rw [h1]
  apply ByteArray.ext
  rw [ByteArray.data_extract, ByteArray.data_append]
  apply Array.ext'
  have e : ((#[45] : Array UInt8) ++ D.data).toList = 45 :: D.data.toList := by rw [Array.toList_append]; rfl
  rw [Array.toList_extract, e]
  simp [List.extract]
  exact List.take_of_length_le (by rw [Array.length_toList]; exact Nat.le_refl _)
set_option maxHeartbeats 1000000 in
theorem cutPreL_yes (D : ByteArray) (w : World) (hD : D.size ≤ 1000) : Calls Tryz.prog 38 #[.string (⟨#[45]⟩ ++ D), .string ⟨#[45]⟩] w fun e w' => e = .returned (.tuple #[.string D, .bool true]) ∧ w = w' := by
  have HC : Hid (Calls Tryz.prog 47 #[.string (⟨#[45]⟩ ++ D), .string ⟨#[45]⟩] w fun e w' => e = .returned (.bool true) ∧ w' = w) := Lib.hid (by
    have h9 := Shstringslite_HasPrefix (⟨#[45]⟩ ++ D) ⟨#[45]⟩ w
    rw [show Lib.hasPrefix ((⟨#[45]⟩ : ByteArray) ++ D).data.toList (⟨#[45]⟩ : ByteArray).data.toList = true by simp [Lib.hasPrefix, ByteArray.data_append, List.isPrefixOf]] at h9
    exact h9)
  have HX := Lib.hid (ext_tail D)
  have hsz : ((⟨#[45]⟩ : ByteArray) ++ D).size = 1 + D.size := by rw [ByteArray.size_append]; rfl
  obtain ⟨s, hs⟩ : ∃ s, (⟨#[45]⟩ : ByteArray) ++ D = s := ⟨_, rfl⟩
  rw [hs] at HC HX hsz ⊢
  have h1 : (1 : Int) ≤ (s.size : Nat) := by omega
  have h2 : 1 ≤ s.size := by omega
  have HSZ := Lib.hid hsz
  clear hs hsz
  go_enter Tryz.func38, Tryz.ntmps38
  go_wp2_with fail
  refine HC.out.mono ?_
  rintro e w1 ⟨rfl, rfl⟩
  go_wp2_with fail
  go_ret2
  exact ⟨by rw [← HX.out]; rfl, rfl⟩
set_option maxHeartbeats 1000000 in
theorem cutPre_no (s : ByteArray) (w : World) (h : Lib.hasPrefix s.data.toList [45] = false) : Calls Tryz.prog 24 #[.string s, .string ⟨#[45]⟩] w fun e w' => e = .returned (.tuple #[.string s, .bool false]) ∧ w = w' := by
  have HC := Lib.hid (cutPreL_no s w h)
  clear h
  go_enter Tryz.func24, Tryz.ntmps24
  go_wp2_with fail
  refine HC.out.mono ?_
  rintro e w1 ⟨rfl, rfl⟩
  go_wp2_with fail
  go_ret2
  exact ⟨rfl, rfl⟩
set_option maxHeartbeats 1000000 in
theorem cutPre_yes (D : ByteArray) (w : World) (hD : D.size ≤ 1000) : Calls Tryz.prog 24 #[.string (⟨#[45]⟩ ++ D), .string ⟨#[45]⟩] w fun e w' => e = .returned (.tuple #[.string D, .bool true]) ∧ w = w' := by
  have HC := Lib.hid (cutPreL_yes D w hD)
  obtain ⟨s, hs⟩ : ∃ s, (⟨#[45]⟩ : ByteArray) ++ D = s := ⟨_, rfl⟩
  rw [hs] at HC ⊢
  clear hs
  go_enter Tryz.func24, Tryz.ntmps24
  go_wp2_with fail
  refine HC.out.mono ?_
  rintro e w1 ⟨rfl, rfl⟩
  go_wp2_with fail
  go_ret2
  exact ⟨rfl, rfl⟩
set_option maxHeartbeats 2000000 in
theorem readDec (q : Int) (w : World) (h0 : 0 ≤ q) (h1 : q ≤ 20) (hT : TabOk w) : Calls Tryz.prog 26 #[.string (decB q)] w fun e w' => e = .returned (.tuple #[.int .i64 q, .bool true]) ∧ Below w.heap.size w w' := by
  have hw := whole_of h0 h1
  have HT := Lib.hid hT
  have HTR : Hid (Calls Tryz.prog 40 #[.string (decB q), .string ⟨#[45]⟩] w fun e w' => e = .returned (.string (decB q)) ∧ w' = w) := Lib.hid (by
    have h9 := Shstrings_TrimPrefix (decB q) ⟨#[45]⟩ w
    have h8 := whole_pre hw []
    rw [List.append_nil] at h8
    rw [show Lib.trimPrefix (decB q).data.toList (⟨#[45]⟩ : ByteArray).data.toList = (decB q).data.toList by unfold Lib.trimPrefix; rw [if_neg (by rw [show Lib.hasPrefix (decB q).data.toList (⟨#[45]⟩ : ByteArray).data.toList = false from h8]; simp)], bytes_back] at h9
    exact h9)
  have HPI : Hid (Calls Tryz.prog 41 #[.string (decB q), .int .i64 10, .int .i64 64] w fun e w' => e = .returned (.tuple #[.int .i64 q, .nilIface]) ∧ Below w.heap.size w w') := Lib.hid ((Shstrconv_ParseInt_10_at64_ok (decB q) (by have := hw.s2; omega) q hw.p w).mono fun e w' ⟨he, hb⟩ => ⟨he, by
    rcases hb with rfl | ⟨t, rfl⟩
    · exact Below.refl _ _
    · exact ⟨rfl, rfl, rfl, by rw [Lib.bytesWorld_size]; omega, fun k hk => Lib.bytesWorld_at_old _ _ _ k (by omega)⟩⟩)
  have HD : Hid (∀ wq, TabOk wq → Calls Tryz.prog 27 #[.int .i64 q] wq fun e w' => e = .returned (.string (decB q)) ∧ Below wq.heap.size wq w') := Lib.hid fun wq hq => Decimal_any q ⟨by omega, by omega⟩ wq hq
  have s1 := hw.s1
  have s2 := hw.s2
  obtain ⟨s, hs⟩ : ∃ s, decB q = s := ⟨_, rfl⟩
  rw [hs] at HTR HPI HD s1 s2 ⊢
  have d1 : decide ((s.size : Int) < 1) = false := decide_eq_false (by omega)
  have d2 : decide ((18 : Int) < (s.size : Int)) = false := decide_eq_false (by omega)
  have d3 : (s.toList != s.toList) = false := by simp
  clear hw hT hs
  go_enter Tryz.func26, Tryz.ntmps26
  go_wp2_with fail
  refine HTR.out.mono ?_
  rintro e w1 ⟨rfl, rfl⟩
  go_wp2_with fail
  refine HPI.out.mono ?_
  rintro e w2 ⟨rfl, hb2⟩
  have HB2 := Lib.hid hb2
  have HT2 := Lib.hid (HT.out.below hb2)
  clear hb2
  go_wp2_with fail
  refine (HD.out _ HT2.out).mono ?_
  rintro e w3 ⟨rfl, hb3⟩
  have HB3 := Lib.hid (HB2.out.trans (hb3.mono HB2.out.size))
  clear hb3
  go_wp2_with fail
  go_ret2
  exact ⟨rfl, HB3.out⟩
/-- what the loop over the digits has after k of them -/
def digP (q a b c : Int) : Nat → Int
  | 0 => q * 1000
  | 1 => q * 1000 + 100 * a
  | 2 => q * 1000 + 100 * a + 10 * b
  | _ => q * 1000 + 100 * a + 10 * b + 1 * c
set_option maxHeartbeats 4000000 in
theorem readTail (m q r M0 : Int) (neg : Bool) (s D : ByteArray) (w : World) (hm0 : -2000 ≤ m) (hm1 : m ≤ 20000) (hq0 : 0 ≤ q) (hq1 : q ≤ 20) (hr0 : 0 ≤ r) (hr1 : r < 1000) (hM : M0 = q * 1000 + r) (hneg : m = if neg = true then -M0 else M0) (hs : magB m = s) (hsD : digM q r = D) (hB : BothOk w)
    (hcut : ∀ wq, Calls Tryz.prog 24 #[.string s, .string ⟨#[45]⟩] wq fun e w' => e = .returned (.tuple #[.string D, .bool neg]) ∧ wq = w') :
    Calls Tryz.prog 11 #[.string s] w fun e w' => e = .returned (.tuple #[.int .i64 m, .bool true]) ∧ Below w.heap.size w w' := by
  have hw := whole_of hq0 hq1
  obtain ⟨hfs, x, y, z, hd, hx, hy, hz⟩ := frac_of hr0 hr1
  have HB := Lib.hid hB
  have HC := Lib.hid hcut
  have hD6 := digM_size hw hr0 hr1
  rw [hsD] at hD6
  have HCU : Hid (∀ wq, MaxOk wq → Calls Tryz.prog 25 #[.string D, .string ⟨#[46]⟩] wq fun e w' => e = .returned (.tuple #[.string (decB q), .string (threeB r), .bool true]) ∧ Below wq.heap.size wq w') := Lib.hid fun wq hq => by
    obtain ⟨_, mm, hmm⟩ := hq
    have h9 := Shstrings_Cut D ⟨#[46]⟩ mm wq (by omega) hmm
    rw [← hsD, dig_cut r hw] at h9
    rw [← hsD]
    refine h9.mono fun e w' ⟨he, n, hn⟩ => ⟨he.trans (by show Ending.returned (Value.tuple #[Value.string ⟨(decB q).data.toList.toArray⟩, Value.string ⟨(threeB r).data.toList.toArray⟩, Value.bool true]) = _; simp only [bytes_back]), ?_⟩
    subst hn
    exact below_drewN (Below.refl _ _) n
  have HRD : Hid (∀ wq, TabOk wq → Calls Tryz.prog 26 #[.string (decB q)] wq fun e w' => e = .returned (.tuple #[.int .i64 q, .bool true]) ∧ Below wq.heap.size wq w') := Lib.hid fun wq hq => readDec q wq hq0 hq1 hq
  have HMT : Hid (∀ wq, TabOk wq → Calls Tryz.prog 12 #[.int .i64 m] wq fun e w' => e = .returned (.string s) ∧ Below wq.heap.size wq w') := Lib.hid fun wq hq => by rw [← hs]; exact MagText_any m wq hq hm0 hm1
  have hT3 : threeB r = ⟨#[x, y, z]⟩ := ByteArray.ext hd
  rw [hT3] at HCU
  obtain ⟨dq, hdq⟩ : ∃ dq, decB q = dq := ⟨_, rfl⟩
  rw [hdq] at HCU HRD
  have vq : inB q 0 20 = true := inB_iff.2 ⟨hq0, hq1⟩
  have d3 : (s.toList != s.toList) = false := by simp
  obtain ⟨a, ha⟩ : ∃ a, r / 100 = a := ⟨_, rfl⟩
  obtain ⟨b, hb⟩ : ∃ b, r / 10 % 10 = b := ⟨_, rfl⟩
  obtain ⟨c, hc⟩ : ∃ c, r % 10 = c := ⟨_, rfl⟩
  rw [ha] at hx
  rw [hb] at hy
  rw [hc] at hz
  have ha0 : 0 ≤ a ∧ a ≤ 9 := by omega
  have hb0 : 0 ≤ b ∧ b ≤ 9 := by omega
  have hc0 : 0 ≤ c ∧ c ≤ 9 := by omega
  have hP3 : digP q a b c 3 = M0 := by show q * 1000 + 100 * a + 10 * b + 1 * c = M0; omega
  have HP3 := Lib.hid hP3
  have HNG := Lib.hid hneg
  have hM0b : 0 ≤ M0 ∧ M0 ≤ 20999 := by omega
  clear hB hcut hs hsD hw hfs hd hT3 hdq ha hb hc hP3 hM hD6 hneg
  have u1 : IntKind.u8.wrap ((x.toNat : Int) - 48) = a := by rw [hx, IntKind.wrap_u8]; omega
  have u2 : IntKind.u8.wrap ((y.toNat : Int) - 48) = b := by rw [hy, IntKind.wrap_u8]; omega
  have u3 : IntKind.u8.wrap ((z.toNat : Int) - 48) = c := by rw [hz, IntKind.wrap_u8]; omega
  have e1 : IntKind.i64.wrap a = a := IntWalk.i64_in _ (by omega)
  have e2 : IntKind.i64.wrap b = b := IntWalk.i64_in _ (by omega)
  have e3 : IntKind.i64.wrap c = c := IntWalk.i64_in _ (by omega)
  have i0 : IntKind.i64.wrap (q * 1000) = q * 1000 := IntWalk.i64_in _ (by omega)
  have m1 : IntKind.i64.wrap (100 * a) = 100 * a := IntWalk.i64_in _ (by omega)
  have m2 : IntKind.i64.wrap (10 * b) = 10 * b := IntWalk.i64_in _ (by omega)
  have m3 : IntKind.i64.wrap (1 * c) = 1 * c := IntWalk.i64_in _ (by omega)
  have t1 : IntKind.i64.wrap (digP q a b c 0 + 100 * a) = digP q a b c 1 := by show IntKind.i64.wrap (q * 1000 + 100 * a) = q * 1000 + 100 * a; exact IntWalk.i64_in _ (by omega)
  have t2 : IntKind.i64.wrap (digP q a b c 1 + 10 * b) = digP q a b c 2 := by show IntKind.i64.wrap (q * 1000 + 100 * a + 10 * b) = q * 1000 + 100 * a + 10 * b; exact IntWalk.i64_in _ (by omega)
  have t3 : IntKind.i64.wrap (digP q a b c 2 + 1 * c) = digP q a b c 3 := by show IntKind.i64.wrap (q * 1000 + 100 * a + 10 * b + 1 * c) = q * 1000 + 100 * a + 10 * b + 1 * c; exact IntWalk.i64_in _ (by omega)
  have HZ : Hid (q * 1000 = digP q a b c 0) := Lib.hid rfl
  have T1 : Hid (wrap64 (digP q a b c 0 + 100 * (((x.toNat : Int) - 48) % 256)) = digP q a b c 1) := Lib.hid (by rw [show ((x.toNat : Int) - 48) % 256 = a by omega]; show wrap64 (q * 1000 + 100 * a) = q * 1000 + 100 * a; unfold wrap64; omega)
  have T2 : Hid (wrap64 (digP q a b c 1 + 10 * (((y.toNat : Int) - 48) % 256)) = digP q a b c 2) := Lib.hid (by rw [show ((y.toNat : Int) - 48) % 256 = b by omega]; show wrap64 (q * 1000 + 100 * a + 10 * b) = q * 1000 + 100 * a + 10 * b; unfold wrap64; omega)
  have T3 : Hid (wrap64 (digP q a b c 2 + (((z.toNat : Int) - 48) % 256)) = digP q a b c 3) := Lib.hid (by rw [show ((z.toNat : Int) - 48) % 256 = 1 * c by omega]; show wrap64 (q * 1000 + 100 * a + 10 * b + 1 * c) = q * 1000 + 100 * a + 10 * b + 1 * c; unfold wrap64; omega)
  go_enter Tryz.func11, Tryz.ntmps11
  go_wp2_with fail
  refine (HC.out _).mono ?_
  rintro e w1 ⟨rfl, rfl⟩
  go_wp2_with fail
  refine (HCU.out _ HB.out.2).mono ?_
  rintro e w2 ⟨rfl, hb2⟩
  have HB2 := Lib.hid hb2
  have HO2 := Lib.hid (HB.out.below hb2)
  clear hb2
  go_wp2_with fail
  refine (HRD.out _ HO2.out.1).mono ?_
  rintro e w3 ⟨rfl, hb3⟩
  have HO3 := Lib.hid (HO2.out.below hb3)
  have HB3 := Lib.hid (HB2.out.trans (hb3.mono HB2.out.size))
  clear hb3
  go_wp2_with fail
  refine (in_lit _ _ _ _ _ vq).mono ?_
  rintro e wz ⟨rfl, rfl⟩
  go_upto_region 7 with (fail)
  have HX := CAt.new w3 #[.int .i64 100, .int .i64 10, .int .i64 1] 2
  have hbx := (Below.refl w3.heap.size w3).alloc (Nat.le_refl _) (.cells #[.int .i64 100, .int .i64 10, .int .i64 1] 2)
  obtain ⟨g, hg⟩ : ∃ g, w3.heap.size = g := ⟨_, rfl⟩
  obtain ⟨w4, hw4⟩ : ∃ wx, w3.alloc (.cells #[.int .i64 100, .int .i64 10, .int .i64 1] 2) = wx := ⟨_, rfl⟩
  rw [hw4] at HX hbx
  rw [hg] at HX
  have HO4 := Lib.hid (HO3.out.below hbx)
  have HB4 := Lib.hid (HB3.out.trans (hbx.mono HB3.out.size))
  have HX4 := Lib.hid HX
  have HW4 := Lib.hid hw4
  have HGG := Lib.hid hg
  clear HX hbx hw4 hg HO3 HB3
  rw [HZ.out]
  go_wp2_with fail
  rw [HW4.out, HGG.out]
  clear HW4 HGG
  go_loopw [11, 12, 13, 46] (fun mv z1 z2 kv wr => ∃ k : Nat, z1 = z1 ∧ z2 = z2 ∧ k ≤ 3 ∧ kv = .int .i64 k ∧ mv = .int .i64 (digP q a b c k) ∧ Hid (w4 = wr)) (fun _ _ _ kv _ => 3 - (intOf kv).toNat)
  case atStart => exact ⟨0, by trivial, by trivial, by omega, rfl, rfl, Lib.hid rfl⟩
  case round =>
  obtain ⟨k, -, -, hk, rfl, rfl, HWW⟩ := hrel
  have hww := HWW.out
  subst hww
  clear HWW
  have c0 : w4.cell? ⟨g, 0, none⟩ = some (.int .i64 100) := HX4.out.cell 0
  have c1 : w4.cell? ⟨g, 1, none⟩ = some (.int .i64 10) := HX4.out.cell 1
  have c2 : w4.cell? ⟨g, 2, none⟩ = some (.int .i64 1) := HX4.out.cell 2
  rcases (show k = 0 ∨ k = 1 ∨ k = 2 ∨ k = 3 by omega) with rfl | rfl | rfl | rfl
  · go_wp2_with fail
    go_roundw
    case rel => exact ⟨1, by trivial, by trivial, by omega, by go_num, congrArg (Value.int .i64) T1.out, by trivial⟩
    case measure => simp [intOf]
  · go_wp2_with fail
    go_roundw
    case rel => exact ⟨2, by trivial, by trivial, by omega, by go_num, congrArg (Value.int .i64) T2.out, by trivial⟩
    case measure => simp [intOf]
  · go_wp2_with fail
    go_roundw
    case rel => exact ⟨3, by trivial, by trivial, by omega, by go_num, congrArg (Value.int .i64) T3.out, by trivial⟩
    case measure => simp [intOf]
  · rw [HP3.out]
    cases neg with
    | false =>
      have hm : m = M0 := HNG.out
      rw [← hm]
      clear hm u1 u2 u3 e1 e2 e3 i0 m1 m2 m3 t1 t2 t3 c0 c1 c2
      go_wp2_with fail
      refine (HMT.out _ HO4.out.1).mono ?_
      rintro e w5 ⟨rfl, hb5⟩
      have HB5 := Lib.hid (HB4.out.trans (hb5.mono HB4.out.size))
      clear hb5
      go_wp2_with fail
      go_ret2
      exact ⟨rfl, HB5.out⟩
    | true =>
      have hm : m = -M0 := HNG.out
      have hw : IntKind.i64.wrap (-M0) = m := by rw [← hm]; exact IntWalk.i64_in _ (by omega)
      clear hm u1 u2 u3 e1 e2 e3 i0 m1 m2 m3 t1 t2 t3 c0 c1 c2
      go_wp2_with fail
      refine (HMT.out _ HO4.out.1).mono ?_
      rintro e w5 ⟨rfl, hb5⟩
      have HB5 := Lib.hid (HB4.out.trans (hb5.mono HB4.out.size))
      clear hb5
      go_wp2_with fail
      go_ret2
      exact ⟨rfl, HB5.out⟩
theorem readMag (m : Int) (w : World) (h0 : -2000 ≤ m) (h1 : m ≤ 20000) (hB : BothOk w) : Calls Tryz.prog 11 #[.string (magB m)] w fun e w' => e = .returned (.tuple #[.int .i64 m, .bool true]) ∧ Below w.heap.size w w' := by
  have ha : 0 ≤ absM m ∧ absM m ≤ 20000 := by unfold absM; split <;> omega
  have hq0 : 0 ≤ absM m / 1000 := by omega
  have hq1 : absM m / 1000 ≤ 20 := by omega
  have hr0 : 0 ≤ absM m % 1000 := by omega
  have hr1 : absM m % 1000 < 1000 := by omega
  have hw := whole_of hq0 hq1
  have hsz := digM_size hw hr0 hr1
  by_cases hn : m < 0
  · have hd : magB m = ⟨#[45]⟩ ++ digM (absM m / 1000) (absM m % 1000) := by rw [magB_dig, if_pos hn]
    exact readTail m _ _ (absM m) true _ _ w h0 h1 hq0 hq1 hr0 hr1 (by omega) (by rw [if_pos rfl]; unfold absM; rw [if_pos hn]; omega) rfl rfl hB fun wq => by rw [hd]; exact cutPre_yes _ wq (by omega)
  · have hd : magB m = digM (absM m / 1000) (absM m % 1000) := by
      rw [magB_dig, if_neg hn]
      exact ByteArray.empty_append
    exact readTail m _ _ (absM m) false _ _ w h0 h1 hq0 hq1 hr0 hr1 (by omega) (by rw [if_neg (by simp)]; unfold absM; rw [if_neg hn]) rfl rfl hB fun wq => by
      rw [hd]
      exact cutPre_no _ wq (by rw [digM_list]; exact whole_pre hw _)
end Go.Proofs.YtomlhicpjchdoaaGreatDoor
