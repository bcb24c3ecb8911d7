/-
  Links that are valid: the program and the reference.
-/
import Derived.Test.YtnioecigjpifnaaLkP
import Derived.Test.YtnioecigjpifnaaBx
import Derived.Test.YtnioecigjpifnaaErr0
namespace Go.Proofs.Ytnioecigjpifnaa
open Go.RowKit
set_option maxRecDepth 100000
set_option linter.unusedVariables false
set_option linter.unusedSimpArgs false
set_option maxHeartbeats 1000000 in
theorem isLink_ok (n : Nat) (l : Lnk) (h : LkOk n l) (w : World) : Calls Try.prog 59 #[.int .i64 (n : Int), .agg #[.int .i64 l.a, .int .i64 l.b, .int .i64 l.diff]] w fun e w' => e = .returned (.bool true) ∧ Below w.heap.size w w' := by
  obtain ⟨h0, h1, h2, h3, h4⟩ := h
  have d0 : decide (0 ≤ l.a) = true := decide_eq_true h0
  have d1 : decide (l.a < l.b) = true := decide_eq_true h1
  have d2 : decide (l.b < (n : Int)) = true := decide_eq_true h2
  have d3 : inB l.diff (-5000) 5000 = true := inB_iff.2 ⟨h3, h4⟩
  go_enter Try.func59, Try.ntmps59
  have HX1 := CAt.new w #[.int .i64 l.a, .int .i64 l.b, .int .i64 l.diff] 50
  have hb2 := (Below.refl w.heap.size w).alloc (Nat.le_refl _) (.cells #[.int .i64 l.a, .int .i64 l.b, .int .i64 l.diff] 50)
  obtain ⟨wv4, HW5⟩ : ∃ wx, w.alloc (.cells #[.int .i64 l.a, .int .i64 l.b, .int .i64 l.diff] 50) = wx := ⟨_, rfl⟩
  obtain ⟨g3, HG6⟩ : ∃ gx, w.heap.size = gx := ⟨_, rfl⟩
  rw [HW5] at HX1 hb2
  rw [HG6] at HX1
  have hge7 : w.heap.size ≤ g3 := by rw [← HG6]; exact Nat.le_refl _
  have HX1_ := Lib.hid HX1
  clear HX1
  have HX1 := HX1_
  clear HX1_
  have HW5_ := Lib.hid HW5
  clear HW5
  have HW5 := HW5_
  clear HW5_
  have HG6_ := Lib.hid HG6
  clear HG6
  have HG6 := HG6_
  clear HG6_
  have HB8 : Hid (Below w.heap.size w wv4) := Lib.hid hb2
  clear hb2
  go_upto_region 1 with (fail)
  rw [HW5.out]
  rw [HG6.out]
  have c9 : wv4.cell? ⟨g3, 0, none⟩ = some (.int .i64 l.a) := HX1.out.cell 0
  have c10 : wv4.cell? ⟨g3, 1, none⟩ = some (.int .i64 l.b) := HX1.out.cell 1
  have c11 : wv4.cell? ⟨g3, 2, none⟩ = some (.int .i64 l.diff) := HX1.out.cell 2
  go_wp2_with fail
  refine (in_any l.diff (-5000) 5000 _).mono ?_
  rintro e wz ⟨rfl, rfl⟩
  clear c9 c10 c11
  go_wp2_with fail
  go_ret
  exact ⟨by first | rfl | exact d3 ▸ rfl | simp [d3], HB8.out⟩
set_option maxHeartbeats 1000000 in
theorem l20One_ok (n : Nat) (l : Lnk) (h : LkOk n l) (w : World) : Calls Try.prog 62 #[.agg #[.int .i64 l.a, .int .i64 l.b, .int .i64 l.diff], .int .i64 (n : Int)] w fun e w' => e = .returned (.bool true) ∧ Below w.heap.size w w' := by
  obtain ⟨h0, h1, h2, h3, h4⟩ := h
  have d0 : decide (0 ≤ l.a) = true := decide_eq_true h0
  have d1 : decide (l.a < l.b) = true := decide_eq_true h1
  have d2 : decide (l.b < (n : Int)) = true := decide_eq_true h2
  have d3 : inB l.diff (-5000) 5000 = true := inB_iff.2 ⟨h3, h4⟩
  go_enter Try.func62, Try.ntmps62
  have HX1 := CAt.new w #[.int .i64 l.a, .int .i64 l.b, .int .i64 l.diff] 50
  have hb2 := (Below.refl w.heap.size w).alloc (Nat.le_refl _) (.cells #[.int .i64 l.a, .int .i64 l.b, .int .i64 l.diff] 50)
  obtain ⟨wv4, HW5⟩ : ∃ wx, w.alloc (.cells #[.int .i64 l.a, .int .i64 l.b, .int .i64 l.diff] 50) = wx := ⟨_, rfl⟩
  obtain ⟨g3, HG6⟩ : ∃ gx, w.heap.size = gx := ⟨_, rfl⟩
  rw [HW5] at HX1 hb2
  rw [HG6] at HX1
  have hge7 : w.heap.size ≤ g3 := by rw [← HG6]; exact Nat.le_refl _
  have HX1_ := Lib.hid HX1
  clear HX1
  have HX1 := HX1_
  clear HX1_
  have HW5_ := Lib.hid HW5
  clear HW5
  have HW5 := HW5_
  clear HW5_
  have HG6_ := Lib.hid HG6
  clear HG6
  have HG6 := HG6_
  clear HG6_
  have HB8 : Hid (Below w.heap.size w wv4) := Lib.hid hb2
  clear hb2
  go_upto_region 1 with (fail)
  rw [HW5.out]
  rw [HG6.out]
  have c9 : wv4.cell? ⟨g3, 0, none⟩ = some (.int .i64 l.a) := HX1.out.cell 0
  have c10 : wv4.cell? ⟨g3, 1, none⟩ = some (.int .i64 l.b) := HX1.out.cell 1
  have c11 : wv4.cell? ⟨g3, 2, none⟩ = some (.int .i64 l.diff) := HX1.out.cell 2
  go_wp2_with fail
  refine (l00In_any l.diff (-5000) 5000 _).mono ?_
  rintro e wz ⟨rfl, rfl⟩
  clear c9 c10 c11
  go_wp2_with fail
  go_ret
  exact ⟨by first | rfl | exact d3 ▸ rfl | simp [d3], HB8.out⟩
set_option maxHeartbeats 1000000 in
theorem validLinks_ok (n : Nat) (ls : List Lnk) (a : Option Addr) (m c : Nat) (w : World) (h1 : 1 ≤ n) (h10 : n ≤ 10) (hm : m ≤ 12) (hl : ls.length = m) (hok : ∀ l ∈ ls, LkOk n l) (hr : Rd Lnk.enc 3 w a ls) : Calls Try.prog 39 #[.int .i64 (n : Int), .slice a m c] w fun e w' => e = .returned (.bool true) ∧ Below w.heap.size w w' := by
  have HL := Lib.hid hl
  have HR := Lib.hid hr
  clear hl hr
  have dn : inB (n : Int) 1 10 = true := inB_iff.2 (by omega)
  have dm : decide (12 < (m : Int)) = false := decide_eq_false (by omega)
  have dmn : decide (12 < m) = false := decide_eq_false (by omega)
  have dl : decide ((m : Int) ≤ 12) = true := decide_eq_true (by omega)
  have dln : decide (m ≤ 12) = true := decide_eq_true (by omega)
  go_enter Try.func39, Try.ntmps39
  go_wp2_with fail
  refine (in_any (n : Int) 1 10 _).mono ?_
  rintro e wz ⟨rfl, rfl⟩
  go_wp2_with fail
  go_loopw [17] (fun i wr => ∃ (k : Nat), k ≤ m ∧ i = .int .i64 k ∧ Hid (Below w.heap.size w wr)) (fun i _ => m - (intOf i).toNat)
  case atStart => exact ⟨0, Nat.zero_le _, rfl, Lib.hid (Below.refl _ _)⟩
  case round =>
    obtain ⟨k, hk, rfl, HBk⟩ := hrel
    obtain ⟨wr1, hwr⟩ : ∃ wx, wx = wr := ⟨_, rfl⟩
    subst hwr
    have HB2 := HBk
    clear HBk
    by_cases hlt : k < m
    · obtain ⟨x, hx⟩ : ∃ z, (ls)[k]? = some z := ⟨_, List.getElem?_eq_getElem (by rw [HL.out]; omega)⟩
      have HXx := Lib.hid hx
      clear hx
      have HOKx := Lib.hid (hok x (List.mem_of_getElem? HXx.out))
      obtain ⟨b3, o4, hab, HC5⟩ := HR.out.addr (by rw [HL.out]; omega)
      have HC5_ := Lib.hid HC5
      clear HC5
      have HC5 := HC5_
      clear HC5_
      subst hab
      have c6 : wr1.cell? ⟨b3, o4 + k * 3, none⟩ = some (.int .i64 x.a) := HC5.out k x HXx.out wr1 HB2.out 0 _ rfl
      have c7 : wr1.cell? ⟨b3, o4 + k * 3 + 1, none⟩ = some (.int .i64 x.b) := HC5.out k x HXx.out wr1 HB2.out 1 _ rfl
      have c8 : wr1.cell? ⟨b3, o4 + k * 3 + 2, none⟩ = some (.int .i64 x.diff) := HC5.out k x HXx.out wr1 HB2.out 2 _ rfl
      have j9 : (0 : Int) ≤ (k : Nat) := by omega
      have j10 : ((k : Nat) : Int) < m := by omega
      have HX11 := CAt.new wr1 #[.int .i64 x.a, .int .i64 x.b, .int .i64 x.diff] 50
      have hb12 := (Below.refl wr1.heap.size wr1).alloc (Nat.le_refl _) (.cells #[.int .i64 x.a, .int .i64 x.b, .int .i64 x.diff] 50)
      obtain ⟨wv14, HW15⟩ : ∃ wx, wr1.alloc (.cells #[.int .i64 x.a, .int .i64 x.b, .int .i64 x.diff] 50) = wx := ⟨_, rfl⟩
      obtain ⟨g13, HG16⟩ : ∃ gx, wr1.heap.size = gx := ⟨_, rfl⟩
      rw [HW15] at HX11 hb12
      rw [HG16] at HX11
      have hge17 : w.heap.size ≤ g13 := by rw [← HG16]; exact HB2.out.size
      have HX11_ := Lib.hid HX11
      clear HX11
      have HX11 := HX11_
      clear HX11_
      have HW15_ := Lib.hid HW15
      clear HW15
      have HW15 := HW15_
      clear HW15_
      have HG16_ := Lib.hid HG16
      clear HG16
      have HG16 := HG16_
      clear HG16_
      have HB18 : Hid (Below w.heap.size w wv14) := Lib.hid (HB2.out.trans (hb12.mono HB2.out.size))
      clear hb12
      go_upto_region 6 with (fail)
      rw [HW15.out]
      rw [HG16.out]
      clear c6 c7 c8 j9 j10
      have c19 : wv14.cell? ⟨g13, 0, none⟩ = some (.int .i64 x.a) := HX11.out.cell 0
      have c20 : wv14.cell? ⟨g13, 1, none⟩ = some (.int .i64 x.b) := HX11.out.cell 1
      have c21 : wv14.cell? ⟨g13, 2, none⟩ = some (.int .i64 x.diff) := HX11.out.cell 2
      go_wp2_with fail
      refine (isLink_ok n x HOKx.out _).mono ?_
      rintro e wv22 ⟨rfl, hb23⟩
      clear c19 c20 c21
      have HB24 : Hid (Below w.heap.size w wv22) := Lib.hid (HB18.out.trans (hb23.mono HB18.out.size))
      have HX25 := Lib.hid (HX11.out.below hb23)
      clear hb23
      have i26 : IntKind.i64.wrap ((k : Int) + 1) = (k : Int) + 1 := IntWalk.i64_in _ (by omega)
      go_wp2_with fail
      go_roundw
      case rel => exact ⟨k + 1, by omega, by go_num, HB24⟩
      case measure => simp [intOf]; omega
    · have hkn : k = m := by omega
      have HKN := Lib.hid hkn
      clear hkn
      go_wp2_with fail
      go_ret
      exact ⟨rfl, HB2.out⟩
set_option maxHeartbeats 1000000 in
theorem l20Ok_ok (n : Nat) (ls : List Lnk) (a : Option Addr) (m c : Nat) (w : World) (h1 : 1 ≤ n) (h10 : n ≤ 10) (hm : m ≤ 12) (hl : ls.length = m) (hok : ∀ l ∈ ls, LkOk n l) (hr : Rd Lnk.enc 3 w a ls) : Calls Try.prog 45 #[.int .i64 (n : Int), .slice a m c] w fun e w' => e = .returned (.bool true) ∧ Below w.heap.size w w' := by
  have HL := Lib.hid hl
  have HR := Lib.hid hr
  clear hl hr
  have dn : inB (n : Int) 1 10 = true := inB_iff.2 (by omega)
  have dm : decide (12 < (m : Int)) = false := decide_eq_false (by omega)
  have dmn : decide (12 < m) = false := decide_eq_false (by omega)
  have dl : decide ((m : Int) ≤ 12) = true := decide_eq_true (by omega)
  have dln : decide (m ≤ 12) = true := decide_eq_true (by omega)
  go_enter Try.func45, Try.ntmps45
  go_wp2_with fail
  refine (l00In_any (n : Int) 1 10 _).mono ?_
  rintro e wz ⟨rfl, rfl⟩
  go_wp2_with fail
  go_loopw [5] (fun i wr => ∃ (k : Nat), k ≤ m ∧ i = .int .i64 k ∧ Hid (Below w.heap.size w wr)) (fun i _ => m - (intOf i).toNat)
  case atStart => exact ⟨0, Nat.zero_le _, rfl, Lib.hid (Below.refl _ _)⟩
  case round =>
    obtain ⟨k, hk, rfl, HBk⟩ := hrel
    obtain ⟨wr1, hwr⟩ : ∃ wx, wx = wr := ⟨_, rfl⟩
    subst hwr
    have HB2 := HBk
    clear HBk
    by_cases hlt : k < m
    · obtain ⟨x, hx⟩ : ∃ z, (ls)[k]? = some z := ⟨_, List.getElem?_eq_getElem (by rw [HL.out]; omega)⟩
      have HXx := Lib.hid hx
      clear hx
      have HOKx := Lib.hid (hok x (List.mem_of_getElem? HXx.out))
      obtain ⟨b3, o4, hab, HC5⟩ := HR.out.addr (by rw [HL.out]; omega)
      have HC5_ := Lib.hid HC5
      clear HC5
      have HC5 := HC5_
      clear HC5_
      subst hab
      have c6 : wr1.cell? ⟨b3, o4 + k * 3, none⟩ = some (.int .i64 x.a) := HC5.out k x HXx.out wr1 HB2.out 0 _ rfl
      have c7 : wr1.cell? ⟨b3, o4 + k * 3 + 1, none⟩ = some (.int .i64 x.b) := HC5.out k x HXx.out wr1 HB2.out 1 _ rfl
      have c8 : wr1.cell? ⟨b3, o4 + k * 3 + 2, none⟩ = some (.int .i64 x.diff) := HC5.out k x HXx.out wr1 HB2.out 2 _ rfl
      have j9 : (0 : Int) ≤ (k : Nat) := by omega
      have j10 : ((k : Nat) : Int) < m := by omega
      go_wp2_with fail
      refine (l20One_ok n x HOKx.out _).mono ?_
      rintro e wv11 ⟨rfl, hb12⟩
      clear c6 c7 c8 j9 j10
      have HB13 : Hid (Below w.heap.size w wv11) := Lib.hid (HB2.out.trans (hb12.mono HB2.out.size))
      clear hb12
      have i14 : IntKind.i64.wrap ((k : Int) + 1) = (k : Int) + 1 := IntWalk.i64_in _ (by omega)
      go_wp2_with fail
      go_roundw
      case rel => exact ⟨k + 1, by omega, by go_num, HB13⟩
      case measure => simp [intOf]; omega
    · have hkn : k = m := by omega
      have HKN := Lib.hid hkn
      clear hkn
      go_wp2_with fail
      go_ret
      exact ⟨rfl, HB2.out⟩
end Go.Proofs.Ytnioecigjpifnaa
