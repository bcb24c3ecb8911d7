/-
  The longest alert and the longest quiet time: the program and the reference.
-/
import Derived.Test.YtjmojfbebcgjeaaDoorFaP
import Derived.Test.YtjmojfbebcgjeaaDoorErr0
import Derived.Test.YtjmojfbebcgjeaaDoorMin
import Derived.Deep.RegionHeld3
namespace Go.Proofs.YtjmojfbebcgjeaaDoor
open Go.RowKit
set_option maxRecDepth 100000
set_option linter.unusedVariables false
set_option linter.unusedSimpArgs false
theorem lo_1 (l : List Alt) : loI false l = 0 ∧ loC false l = 1 := ⟨rfl, rfl⟩
theorem lo_3 {l : List Alt} {n : Nat} (hl : l.length = n) (h : loK l n < 0) : loI true l = 0 ∧ loC true l = 3 := by
  have e : loC true l = 3 := by unfold loC; rw [hl, if_pos rfl, if_pos h]
  exact ⟨by unfold loI; rw [e]; rfl, e⟩
theorem lo_0 {l : List Alt} {n : Nat} (hl : l.length = n) (h : ¬ loK l n < 0) : loI true l = loK l n ∧ loC true l = 0 := by
  have e : loC true l = 0 := by unfold loC; rw [hl, if_pos rfl, if_neg h]
  exact ⟨by unfold loI; rw [if_pos e, hl], e⟩
theorem qt_1 (l : List Alt) : qtI false l = 0 ∧ qtC false l = 1 := ⟨rfl, rfl⟩
theorem qt_3 {l : List Alt} {n : Nat} (hl : l.length = n) (h : n < 2) : qtI true l = 0 ∧ qtC true l = 3 := by
  have e : qtC true l = 3 := by unfold qtC; rw [hl, if_pos rfl, if_pos h]
  exact ⟨by unfold qtI; rw [e]; rfl, e⟩
theorem qt_0 {l : List Alt} {n : Nat} (hl : l.length = n) (h : ¬ n < 2) : qtI true l = qtK l n ∧ qtC true l = 0 := by
  have e : qtC true l = 0 := by unfold qtC; rw [hl, if_pos rfl, if_neg h]
  exact ⟨by unfold qtI; rw [if_pos e, hl], e⟩
set_option maxHeartbeats 4000000 in
theorem imLongT (ls : List Alt) (a : Option Addr) (n c : Nat) (w : World) (hn : n ≤ 1048576) (hl : ls.length = n) (hr : Rd Alt.enc 3 w a ls) (hA : AOk ls) : Calls Tryd.prog 25 #[.slice a n c] w fun e w' => e = .returned (.tuple #[.int .i64 (loI true ls), .int .i64 (loC true ls)]) ∧ Below w.heap.size w w' := by
  have HL := Lib.hid hl
  have HR := Lib.hid hr
  have HA := Lib.hid hA
  have HAI : Hid (AOkI ls) := Lib.hid ((AOk_iff ls).1 hA)
  have HAS : Hid (AOk ls) := Lib.hid hA
  have hn50 : n ≤ 50 := by rw [← hl]; exact hA.1
  clear hl hr hA
  go_enter Tryd.func25, Tryd.ntmps25
  go_wp2_with fail
  refine (areAlerts_any ls true a n c _ (by omega) HL.out (HR.out.below (Below.refl w.heap.size w)) ⟨fun _ => HAI.out, fun _ => rfl⟩).mono ?_
  rintro e wv1 ⟨rfl, hb2⟩
  have HB3 : Hid (Below w.heap.size w wv1) := Lib.hid hb2
  clear hb2
  go_wp2_with fail
  go_loopw [4, 12] (fun v4 i wr => ∃ (k : Nat), k ≤ n ∧ i = .int .i64 k ∧ v4 = .int .i64 (loK ls k) ∧ Hid (Below w.heap.size w wr)) (fun _ i _ => n - (intOf i).toNat)
  case atStart => exact ⟨0, Nat.zero_le _, rfl, rfl, HB3⟩
  case round =>
    obtain ⟨k, hk, rfl, rfl, HBk⟩ := hrel
    obtain ⟨wr4, hwr⟩ : ∃ wx, wx = wr := ⟨_, rfl⟩
    subst hwr
    have HB5 := HBk
    clear HBk
    by_cases hlt : k < n
    · obtain ⟨x, hx⟩ : ∃ z, (ls)[k]? = some z := ⟨_, List.getElem?_eq_getElem (by rw [HL.out]; omega)⟩
      have HXx := Lib.hid hx
      clear hx
      have hb1 := loK_bd ls k
      have hx1 := HA.out.bd k x HXx.out
      obtain ⟨y, HXy⟩ : ∃ z : Alt, 0 ≤ loK ls k → Hid (ls[(loK ls k).toNat]? = some z) ∧ (0 ≤ z.beg ∧ z.beg ≤ 10000000) ∧ -1 ≤ z.fin ∧ z.fin ≤ 10000000 := by
        by_cases h9 : 0 ≤ loK ls k
        · have h8 : ls[(loK ls k).toNat]? = some (ls[(loK ls k).toNat]'(by rw [HL.out]; omega)) := List.getElem?_eq_getElem (by rw [HL.out]; omega)
          exact ⟨_, fun _ => ⟨Lib.hid h8, HA.out.bd _ _ h8⟩⟩
        · exact ⟨⟨0, 0, 0⟩, fun h8 => absurd h8 h9⟩
      by_cases hc25 : 0 ≤ x.fin
      · have d26 : decide (0 ≤ x.fin) = true := decide_eq_true hc25
        by_cases hc46 : loK ls k < 0
        · have d47 : decide (loK ls k < 0) = true := decide_eq_true hc46
          obtain ⟨b48, o49, hab, HC50⟩ := HR.out.addr (by rw [HL.out]; omega)
          have HC50_ := Lib.hid HC50
          clear HC50
          have HC50 := HC50_
          clear HC50_
          subst hab
          have c51 : wr4.cell? ⟨b48, o49 + k * 3, none⟩ = some (.int .i64 x.beg) := HC50.out k x HXx.out wr4 HB5.out 0 _ rfl
          have c52 : wr4.cell? ⟨b48, o49 + k * 3 + 1, none⟩ = some (.int .i64 x.fin) := HC50.out k x HXx.out wr4 HB5.out 1 _ rfl
          have c53 : wr4.cell? ⟨b48, o49 + k * 3 + 2, none⟩ = some (.int .i64 x.peak) := HC50.out k x HXx.out wr4 HB5.out 2 _ rfl
          have j54 : (0 : Int) ≤ (k : Nat) := by omega
          have j55 : ((k : Nat) : Int) < n := by omega
          have HX56 := CAt.new wr4 #[.int .i64 x.beg, .int .i64 x.fin, .int .i64 x.peak] 60
          have hb57 := (Below.refl wr4.heap.size wr4).alloc (Nat.le_refl _) (.cells #[.int .i64 x.beg, .int .i64 x.fin, .int .i64 x.peak] 60)
          obtain ⟨wv59, HW60⟩ : ∃ wx, wr4.alloc (.cells #[.int .i64 x.beg, .int .i64 x.fin, .int .i64 x.peak] 60) = wx := ⟨_, rfl⟩
          obtain ⟨g58, HG61⟩ : ∃ gx, wr4.heap.size = gx := ⟨_, rfl⟩
          rw [HW60] at HX56 hb57
          rw [HG61] at HX56
          have hge62 : w.heap.size ≤ g58 := by rw [← HG61]; exact HB5.out.size
          have HX56_ := Lib.hid HX56
          clear HX56
          have HX56 := HX56_
          clear HX56_
          have HW60_ := Lib.hid HW60
          clear HW60
          have HW60 := HW60_
          clear HW60_
          have HG61_ := Lib.hid HG61
          clear HG61
          have HG61 := HG61_
          clear HG61_
          have HB63 : Hid (Below w.heap.size w wv59) := Lib.hid (HB5.out.trans (hb57.mono HB5.out.size))
          clear hb57
          go_upto_region 7 with (fail)
          rw [HW60.out]
          rw [HG61.out]
          clear c51 c52 c53 j54 j55
          have c64 : wv59.cell? ⟨g58, 0, none⟩ = some (.int .i64 x.beg) := HX56.out.cell 0
          have c65 : wv59.cell? ⟨g58, 1, none⟩ = some (.int .i64 x.fin) := HX56.out.cell 1
          have c66 : wv59.cell? ⟨g58, 2, none⟩ = some (.int .i64 x.peak) := HX56.out.cell 2
          go_wp2_with fail
          go_quiet (fail)
          have hbq : Below wv59.heap.size wv59 (wv59.drewN nq) := below_drewN (Below.refl _ _) nq
          obtain ⟨wv67, hwq⟩ : ∃ wq, wv59.drewN nq = wq := ⟨_, rfl⟩
          rw [hwq] at hbq ⊢
          clear hwq
          clear c64 c65 c66
          have HB68 : Hid (Below w.heap.size w wv67) := Lib.hid (HB63.out.trans (hbq.mono HB63.out.size))
          have HX69 := Lib.hid (HX56.out.below hbq)
          clear hbq
          have i70 : IntKind.i64.wrap ((k : Int) + 1) = (k : Int) + 1 := IntWalk.i64_in _ (by omega)
          go_wp2_with fail
          have HS4 : Hid (loK ls (k + 1) = (k : Int)) := Lib.hid (by first | (exact loK_no HXx.out (by omega)) | (exact loK_new HXx.out (by omega) (by omega)) | (exact loK_gt HXx.out (by omega) (HXy (by omega)).1.out (by omega)) | (exact loK_le HXx.out (HXy (by omega)).1.out (by omega) (by omega)))
          go_roundw
          case rel => exact ⟨k + 1, by omega, by go_num, by first | (rw [HS4.out]; done) | (rw [HS4.out]; rfl) | (rw [HS4.out]; go_num), HB68⟩
          case measure => simp [intOf] <;> omega
        · have d71 : decide (loK ls k < 0) = false := decide_eq_false hc46
          obtain ⟨b72, o73, hab, HC74⟩ := HR.out.addr (by rw [HL.out]; omega)
          have HC74_ := Lib.hid HC74
          clear HC74
          have HC74 := HC74_
          clear HC74_
          subst hab
          have c75 : wr4.cell? ⟨b72, o73 + k * 3, none⟩ = some (.int .i64 x.beg) := HC74.out k x HXx.out wr4 HB5.out 0 _ rfl
          have c76 : wr4.cell? ⟨b72, o73 + k * 3 + 1, none⟩ = some (.int .i64 x.fin) := HC74.out k x HXx.out wr4 HB5.out 1 _ rfl
          have c77 : wr4.cell? ⟨b72, o73 + k * 3 + 2, none⟩ = some (.int .i64 x.peak) := HC74.out k x HXx.out wr4 HB5.out 2 _ rfl
          have j78 : (0 : Int) ≤ (k : Nat) := by omega
          have j79 : ((k : Nat) : Int) < n := by omega
          have HX80 := CAt.new wr4 #[.int .i64 x.beg, .int .i64 x.fin, .int .i64 x.peak] 60
          have hb81 := (Below.refl wr4.heap.size wr4).alloc (Nat.le_refl _) (.cells #[.int .i64 x.beg, .int .i64 x.fin, .int .i64 x.peak] 60)
          obtain ⟨wv83, HW84⟩ : ∃ wx, wr4.alloc (.cells #[.int .i64 x.beg, .int .i64 x.fin, .int .i64 x.peak] 60) = wx := ⟨_, rfl⟩
          obtain ⟨g82, HG85⟩ : ∃ gx, wr4.heap.size = gx := ⟨_, rfl⟩
          rw [HW84] at HX80 hb81
          rw [HG85] at HX80
          have hge86 : w.heap.size ≤ g82 := by rw [← HG85]; exact HB5.out.size
          have HX80_ := Lib.hid HX80
          clear HX80
          have HX80 := HX80_
          clear HX80_
          have HW84_ := Lib.hid HW84
          clear HW84
          have HW84 := HW84_
          clear HW84_
          have HG85_ := Lib.hid HG85
          clear HG85
          have HG85 := HG85_
          clear HG85_
          have HB87 : Hid (Below w.heap.size w wv83) := Lib.hid (HB5.out.trans (hb81.mono HB5.out.size))
          clear hb81
          go_upto_region 7 with (fail)
          rw [HW84.out]
          rw [HG85.out]
          clear c75 c76 c77 j78 j79
          have c88 : wv83.cell? ⟨g82, 0, none⟩ = some (.int .i64 x.beg) := HX80.out.cell 0
          have c89 : wv83.cell? ⟨g82, 1, none⟩ = some (.int .i64 x.fin) := HX80.out.cell 1
          have c90 : wv83.cell? ⟨g82, 2, none⟩ = some (.int .i64 x.peak) := HX80.out.cell 2
          have i91 : IntKind.i64.wrap (x.fin - x.beg) = x.fin - x.beg := IntWalk.i64_in _ (by omega)
          have c92 : wv83.cell? ⟨b72, o73 + ((loK ls k).toNat) * 3 + 1, none⟩ = some (.int .i64 y.fin) := HC74.out ((loK ls k).toNat) y (HXy (by omega)).1.out wv83 HB87.out 1 _ rfl
          have j93 : (0 : Int) ≤ loK ls k := by omega
          have j94 : loK ls k < (n : Int) := by omega
          have j95 : (loK ls k).toNat = (loK ls k).toNat := by omega
          have c96 : wv83.cell? ⟨b72, o73 + ((loK ls k).toNat) * 3, none⟩ = some (.int .i64 y.beg) := HC74.out ((loK ls k).toNat) y (HXy (by omega)).1.out wv83 HB87.out 0 _ rfl
          have i97 : IntKind.i64.wrap (y.fin - y.beg) = y.fin - y.beg := IntWalk.i64_in _ (by have := (HXy (by omega)).2; omega)
          go_wp2_with fail
          go_quiet (fail)
          have hbq : Below wv83.heap.size wv83 (wv83.drewN nq) := below_drewN (Below.refl _ _) nq
          obtain ⟨wv98, hwq⟩ : ∃ wq, wv83.drewN nq = wq := ⟨_, rfl⟩
          rw [hwq] at hbq ⊢
          clear hwq
          clear c88 c89 c90 i91 c92 j93 j94 j95 c96 i97
          have HB99 : Hid (Below w.heap.size w wv98) := Lib.hid (HB87.out.trans (hbq.mono HB87.out.size))
          have HX100 := Lib.hid (HX80.out.below hbq)
          clear hbq
          by_cases hc101 : y.fin - y.beg < x.fin - x.beg
          · have d102 : decide (y.fin - y.beg < x.fin - x.beg) = true := decide_eq_true hc101
            have i103 : IntKind.i64.wrap ((k : Int) + 1) = (k : Int) + 1 := IntWalk.i64_in _ (by omega)
            go_wp2_with fail
            have HS4 : Hid (loK ls (k + 1) = (k : Int)) := Lib.hid (by first | (exact loK_no HXx.out (by omega)) | (exact loK_new HXx.out (by omega) (by omega)) | (exact loK_gt HXx.out (by omega) (HXy (by omega)).1.out (by omega)) | (exact loK_le HXx.out (HXy (by omega)).1.out (by omega) (by omega)))
            go_roundw
            case rel => exact ⟨k + 1, by omega, by go_num, by first | (rw [HS4.out]; done) | (rw [HS4.out]; rfl) | (rw [HS4.out]; go_num), HB99⟩
            case measure => simp [intOf] <;> omega
          · have d104 : decide (y.fin - y.beg < x.fin - x.beg) = false := decide_eq_false hc101
            have i105 : IntKind.i64.wrap ((k : Int) + 1) = (k : Int) + 1 := IntWalk.i64_in _ (by omega)
            go_wp2_with fail
            have HS4 : Hid (loK ls (k + 1) = loK ls k) := Lib.hid (by first | (exact loK_no HXx.out (by omega)) | (exact loK_new HXx.out (by omega) (by omega)) | (exact loK_gt HXx.out (by omega) (HXy (by omega)).1.out (by omega)) | (exact loK_le HXx.out (HXy (by omega)).1.out (by omega) (by omega)))
            go_roundw
            case rel => exact ⟨k + 1, by omega, by go_num, by first | (rw [HS4.out]; done) | (rw [HS4.out]; rfl) | (rw [HS4.out]; go_num), HB99⟩
            case measure => simp [intOf] <;> omega
      · have d106 : decide (0 ≤ x.fin) = false := decide_eq_false hc25
        obtain ⟨b107, o108, hab, HC109⟩ := HR.out.addr (by rw [HL.out]; omega)
        have HC109_ := Lib.hid HC109
        clear HC109
        have HC109 := HC109_
        clear HC109_
        subst hab
        have c110 : wr4.cell? ⟨b107, o108 + k * 3, none⟩ = some (.int .i64 x.beg) := HC109.out k x HXx.out wr4 HB5.out 0 _ rfl
        have c111 : wr4.cell? ⟨b107, o108 + k * 3 + 1, none⟩ = some (.int .i64 x.fin) := HC109.out k x HXx.out wr4 HB5.out 1 _ rfl
        have c112 : wr4.cell? ⟨b107, o108 + k * 3 + 2, none⟩ = some (.int .i64 x.peak) := HC109.out k x HXx.out wr4 HB5.out 2 _ rfl
        have j113 : (0 : Int) ≤ (k : Nat) := by omega
        have j114 : ((k : Nat) : Int) < n := by omega
        have HX115 := CAt.new wr4 #[.int .i64 x.beg, .int .i64 x.fin, .int .i64 x.peak] 60
        have hb116 := (Below.refl wr4.heap.size wr4).alloc (Nat.le_refl _) (.cells #[.int .i64 x.beg, .int .i64 x.fin, .int .i64 x.peak] 60)
        obtain ⟨wv118, HW119⟩ : ∃ wx, wr4.alloc (.cells #[.int .i64 x.beg, .int .i64 x.fin, .int .i64 x.peak] 60) = wx := ⟨_, rfl⟩
        obtain ⟨g117, HG120⟩ : ∃ gx, wr4.heap.size = gx := ⟨_, rfl⟩
        rw [HW119] at HX115 hb116
        rw [HG120] at HX115
        have hge121 : w.heap.size ≤ g117 := by rw [← HG120]; exact HB5.out.size
        have HX115_ := Lib.hid HX115
        clear HX115
        have HX115 := HX115_
        clear HX115_
        have HW119_ := Lib.hid HW119
        clear HW119
        have HW119 := HW119_
        clear HW119_
        have HG120_ := Lib.hid HG120
        clear HG120
        have HG120 := HG120_
        clear HG120_
        have HB122 : Hid (Below w.heap.size w wv118) := Lib.hid (HB5.out.trans (hb116.mono HB5.out.size))
        clear hb116
        go_upto_region 7 with (fail)
        rw [HW119.out]
        rw [HG120.out]
        clear c110 c111 c112 j113 j114
        have c123 : wv118.cell? ⟨g117, 0, none⟩ = some (.int .i64 x.beg) := HX115.out.cell 0
        have c124 : wv118.cell? ⟨g117, 1, none⟩ = some (.int .i64 x.fin) := HX115.out.cell 1
        have c125 : wv118.cell? ⟨g117, 2, none⟩ = some (.int .i64 x.peak) := HX115.out.cell 2
        go_wp2_with fail
        go_quiet (fail)
        have hbq : Below wv118.heap.size wv118 (wv118.drewN nq) := below_drewN (Below.refl _ _) nq
        obtain ⟨wv126, hwq⟩ : ∃ wq, wv118.drewN nq = wq := ⟨_, rfl⟩
        rw [hwq] at hbq ⊢
        clear hwq
        clear c123 c124 c125
        have HB127 : Hid (Below w.heap.size w wv126) := Lib.hid (HB122.out.trans (hbq.mono HB122.out.size))
        have HX128 := Lib.hid (HX115.out.below hbq)
        clear hbq
        have i129 : IntKind.i64.wrap ((k : Int) + 1) = (k : Int) + 1 := IntWalk.i64_in _ (by omega)
        go_wp2_with fail
        have HS4 : Hid (loK ls (k + 1) = loK ls k) := Lib.hid (by first | (exact loK_no HXx.out (by omega)) | (exact loK_new HXx.out (by omega) (by omega)) | (exact loK_gt HXx.out (by omega) (HXy (by omega)).1.out (by omega)) | (exact loK_le HXx.out (HXy (by omega)).1.out (by omega) (by omega)))
        go_roundw
        case rel => exact ⟨k + 1, by omega, by go_num, by first | (rw [HS4.out]; done) | (rw [HS4.out]; rfl) | (rw [HS4.out]; go_num), HB127⟩
        case measure => simp [intOf] <;> omega
    · have hkn : k = n := by omega
      have HKN := Lib.hid hkn
      clear hkn
      by_cases hc130 : loK ls k < 0
      · have d131 : decide (loK ls k < 0) = true := decide_eq_true hc130
        go_wp2_with fail
        go_ret2
        exact ⟨by obtain ⟨h1, h2⟩ := lo_3 (l := ls) (n := k) (HL.out.trans HKN.out.symm) (by omega); rw [h1, h2]; rfl, HB5.out⟩
      · have d132 : decide (loK ls k < 0) = false := decide_eq_false hc130
        go_wp2_with fail
        go_ret2
        exact ⟨by obtain ⟨h1, h2⟩ := lo_0 (l := ls) (n := k) (HL.out.trans HKN.out.symm) (by omega); rw [h1, h2]; rfl, HB5.out⟩
set_option maxHeartbeats 4000000 in
theorem spLongT (ls : List Alt) (a : Option Addr) (n c : Nat) (w : World) (hn : n ≤ 1048576) (hl : ls.length = n) (hr : Rd Alt.enc 3 w a ls) (hA : AOk ls) : Calls Tryd.prog 26 #[.slice a n c] w fun e w' => e = .returned (.tuple #[.int .i64 (loI true ls), .int .i64 (loC true ls)]) ∧ Below w.heap.size w w' := by
  have HL := Lib.hid hl
  have HR := Lib.hid hr
  have HA := Lib.hid hA
  have HAI : Hid (AOkI ls) := Lib.hid ((AOk_iff ls).1 hA)
  have HAS : Hid (AOk ls) := Lib.hid hA
  have hn50 : n ≤ 50 := by rw [← hl]; exact hA.1
  clear hl hr hA
  go_enter Tryd.func26, Tryd.ntmps26
  go_wp2_with fail
  refine (l19List_any ls true a n c _ (by omega) HL.out (HR.out.below (Below.refl w.heap.size w)) ⟨fun _ => HAS.out, fun _ => rfl⟩).mono ?_
  rintro e wv1 ⟨rfl, hb2⟩
  have HB3 : Hid (Below w.heap.size w wv1) := Lib.hid hb2
  clear hb2
  go_wp2_with fail
  go_loopw [4, 5] (fun v4 i wr => ∃ (k : Nat), k ≤ n ∧ i = .int .i64 k ∧ v4 = .int .i64 (loK ls k) ∧ Hid (Below w.heap.size w wr)) (fun _ i _ => n - (intOf i).toNat)
  case atStart => exact ⟨0, Nat.zero_le _, rfl, rfl, HB3⟩
  case round =>
    obtain ⟨k, hk, rfl, rfl, HBk⟩ := hrel
    obtain ⟨wr4, hwr⟩ : ∃ wx, wx = wr := ⟨_, rfl⟩
    subst hwr
    have HB5 := HBk
    clear HBk
    by_cases hlt : k < n
    · obtain ⟨x, hx⟩ : ∃ z, (ls)[k]? = some z := ⟨_, List.getElem?_eq_getElem (by rw [HL.out]; omega)⟩
      have HXx := Lib.hid hx
      clear hx
      have hb1 := loK_bd ls k
      have hx1 := HA.out.bd k x HXx.out
      obtain ⟨y, HXy⟩ : ∃ z : Alt, 0 ≤ loK ls k → Hid (ls[(loK ls k).toNat]? = some z) ∧ (0 ≤ z.beg ∧ z.beg ≤ 10000000) ∧ -1 ≤ z.fin ∧ z.fin ≤ 10000000 := by
        by_cases h9 : 0 ≤ loK ls k
        · have h8 : ls[(loK ls k).toNat]? = some (ls[(loK ls k).toNat]'(by rw [HL.out]; omega)) := List.getElem?_eq_getElem (by rw [HL.out]; omega)
          exact ⟨_, fun _ => ⟨Lib.hid h8, HA.out.bd _ _ h8⟩⟩
        · exact ⟨⟨0, 0, 0⟩, fun h8 => absurd h8 h9⟩
      by_cases hc12 : 0 ≤ x.fin
      · have d13 : decide (0 ≤ x.fin) = true := decide_eq_true hc12
        by_cases hc20 : loK ls k < 0
        · have d21 : decide (loK ls k < 0) = true := decide_eq_true hc20
          obtain ⟨b22, o23, hab, HC24⟩ := HR.out.addr (by rw [HL.out]; omega)
          have HC24_ := Lib.hid HC24
          clear HC24
          have HC24 := HC24_
          clear HC24_
          subst hab
          have c25 : wr4.cell? ⟨b22, o23 + k * 3 + 1, none⟩ = some (.int .i64 x.fin) := HC24.out k x HXx.out wr4 HB5.out 1 _ rfl
          have j26 : (0 : Int) ≤ (k : Nat) := by omega
          have j27 : ((k : Nat) : Int) < n := by omega
          go_wp2_with fail
          go_quiet (fail)
          have hbq : Below wr4.heap.size wr4 (wr4.drewN nq) := below_drewN (Below.refl _ _) nq
          obtain ⟨wv28, hwq⟩ : ∃ wq, wr4.drewN nq = wq := ⟨_, rfl⟩
          rw [hwq] at hbq ⊢
          clear hwq
          clear c25 j26 j27
          have HB29 : Hid (Below w.heap.size w wv28) := Lib.hid (HB5.out.trans (hbq.mono HB5.out.size))
          clear hbq
          have i30 : IntKind.i64.wrap ((k : Int) + 1) = (k : Int) + 1 := IntWalk.i64_in _ (by omega)
          go_wp2_with fail
          have HS4 : Hid (loK ls (k + 1) = (k : Int)) := Lib.hid (by first | (exact loK_no HXx.out (by omega)) | (exact loK_new HXx.out (by omega) (by omega)) | (exact loK_gt HXx.out (by omega) (HXy (by omega)).1.out (by omega)) | (exact loK_le HXx.out (HXy (by omega)).1.out (by omega) (by omega)))
          go_roundw
          case rel => exact ⟨k + 1, by omega, by go_num, by first | (rw [HS4.out]; done) | (rw [HS4.out]; rfl) | (rw [HS4.out]; go_num), HB29⟩
          case measure => simp [intOf] <;> omega
        · have d31 : decide (loK ls k < 0) = false := decide_eq_false hc20
          obtain ⟨b32, o33, hab, HC34⟩ := HR.out.addr (by rw [HL.out]; omega)
          have HC34_ := Lib.hid HC34
          clear HC34
          have HC34 := HC34_
          clear HC34_
          subst hab
          have c35 : wr4.cell? ⟨b32, o33 + k * 3 + 1, none⟩ = some (.int .i64 x.fin) := HC34.out k x HXx.out wr4 HB5.out 1 _ rfl
          have j36 : (0 : Int) ≤ (k : Nat) := by omega
          have j37 : ((k : Nat) : Int) < n := by omega
          have c38 : wr4.cell? ⟨b32, o33 + k * 3, none⟩ = some (.int .i64 x.beg) := HC34.out k x HXx.out wr4 HB5.out 0 _ rfl
          have i39 : IntKind.i64.wrap (x.fin - x.beg) = x.fin - x.beg := IntWalk.i64_in _ (by omega)
          have c40 : wr4.cell? ⟨b32, o33 + ((loK ls k).toNat) * 3 + 1, none⟩ = some (.int .i64 y.fin) := HC34.out ((loK ls k).toNat) y (HXy (by omega)).1.out wr4 HB5.out 1 _ rfl
          have j41 : (0 : Int) ≤ loK ls k := by omega
          have j42 : loK ls k < (n : Int) := by omega
          have j43 : (loK ls k).toNat = (loK ls k).toNat := by omega
          have c44 : wr4.cell? ⟨b32, o33 + ((loK ls k).toNat) * 3, none⟩ = some (.int .i64 y.beg) := HC34.out ((loK ls k).toNat) y (HXy (by omega)).1.out wr4 HB5.out 0 _ rfl
          have i45 : IntKind.i64.wrap (y.fin - y.beg) = y.fin - y.beg := IntWalk.i64_in _ (by have := (HXy (by omega)).2; omega)
          go_wp2_with fail
          go_quiet (fail)
          have hbq : Below wr4.heap.size wr4 (wr4.drewN nq) := below_drewN (Below.refl _ _) nq
          obtain ⟨wv46, hwq⟩ : ∃ wq, wr4.drewN nq = wq := ⟨_, rfl⟩
          rw [hwq] at hbq ⊢
          clear hwq
          clear c35 j36 j37 c38 i39 c40 j41 j42 j43 c44 i45
          have HB47 : Hid (Below w.heap.size w wv46) := Lib.hid (HB5.out.trans (hbq.mono HB5.out.size))
          clear hbq
          by_cases hc48 : y.fin - y.beg < x.fin - x.beg
          · have d49 : decide (y.fin - y.beg < x.fin - x.beg) = true := decide_eq_true hc48
            have i50 : IntKind.i64.wrap ((k : Int) + 1) = (k : Int) + 1 := IntWalk.i64_in _ (by omega)
            go_wp2_with fail
            have HS4 : Hid (loK ls (k + 1) = (k : Int)) := Lib.hid (by first | (exact loK_no HXx.out (by omega)) | (exact loK_new HXx.out (by omega) (by omega)) | (exact loK_gt HXx.out (by omega) (HXy (by omega)).1.out (by omega)) | (exact loK_le HXx.out (HXy (by omega)).1.out (by omega) (by omega)))
            go_roundw
            case rel => exact ⟨k + 1, by omega, by go_num, by first | (rw [HS4.out]; done) | (rw [HS4.out]; rfl) | (rw [HS4.out]; go_num), HB47⟩
            case measure => simp [intOf] <;> omega
          · have d51 : decide (y.fin - y.beg < x.fin - x.beg) = false := decide_eq_false hc48
            have i52 : IntKind.i64.wrap ((k : Int) + 1) = (k : Int) + 1 := IntWalk.i64_in _ (by omega)
            go_wp2_with fail
            have HS4 : Hid (loK ls (k + 1) = loK ls k) := Lib.hid (by first | (exact loK_no HXx.out (by omega)) | (exact loK_new HXx.out (by omega) (by omega)) | (exact loK_gt HXx.out (by omega) (HXy (by omega)).1.out (by omega)) | (exact loK_le HXx.out (HXy (by omega)).1.out (by omega) (by omega)))
            go_roundw
            case rel => exact ⟨k + 1, by omega, by go_num, by first | (rw [HS4.out]; done) | (rw [HS4.out]; rfl) | (rw [HS4.out]; go_num), HB47⟩
            case measure => simp [intOf] <;> omega
      · have d53 : decide (0 ≤ x.fin) = false := decide_eq_false hc12
        obtain ⟨b54, o55, hab, HC56⟩ := HR.out.addr (by rw [HL.out]; omega)
        have HC56_ := Lib.hid HC56
        clear HC56
        have HC56 := HC56_
        clear HC56_
        subst hab
        have c57 : wr4.cell? ⟨b54, o55 + k * 3 + 1, none⟩ = some (.int .i64 x.fin) := HC56.out k x HXx.out wr4 HB5.out 1 _ rfl
        have j58 : (0 : Int) ≤ (k : Nat) := by omega
        have j59 : ((k : Nat) : Int) < n := by omega
        go_wp2_with fail
        go_quiet (fail)
        have hbq : Below wr4.heap.size wr4 (wr4.drewN nq) := below_drewN (Below.refl _ _) nq
        obtain ⟨wv60, hwq⟩ : ∃ wq, wr4.drewN nq = wq := ⟨_, rfl⟩
        rw [hwq] at hbq ⊢
        clear hwq
        clear c57 j58 j59
        have HB61 : Hid (Below w.heap.size w wv60) := Lib.hid (HB5.out.trans (hbq.mono HB5.out.size))
        clear hbq
        have i62 : IntKind.i64.wrap ((k : Int) + 1) = (k : Int) + 1 := IntWalk.i64_in _ (by omega)
        go_wp2_with fail
        have HS4 : Hid (loK ls (k + 1) = loK ls k) := Lib.hid (by first | (exact loK_no HXx.out (by omega)) | (exact loK_new HXx.out (by omega) (by omega)) | (exact loK_gt HXx.out (by omega) (HXy (by omega)).1.out (by omega)) | (exact loK_le HXx.out (HXy (by omega)).1.out (by omega) (by omega)))
        go_roundw
        case rel => exact ⟨k + 1, by omega, by go_num, by first | (rw [HS4.out]; done) | (rw [HS4.out]; rfl) | (rw [HS4.out]; go_num), HB61⟩
        case measure => simp [intOf] <;> omega
    · have hkn : k = n := by omega
      have HKN := Lib.hid hkn
      clear hkn
      by_cases hc63 : loK ls k < 0
      · have d64 : decide (loK ls k < 0) = true := decide_eq_true hc63
        go_wp2_with fail
        go_ret2
        exact ⟨by obtain ⟨h1, h2⟩ := lo_3 (l := ls) (n := k) (HL.out.trans HKN.out.symm) (by omega); rw [h1, h2]; rfl, HB5.out⟩
      · have d65 : decide (loK ls k < 0) = false := decide_eq_false hc63
        go_wp2_with fail
        go_ret2
        exact ⟨by obtain ⟨h1, h2⟩ := lo_0 (l := ls) (n := k) (HL.out.trans HKN.out.symm) (by omega); rw [h1, h2]; rfl, HB5.out⟩
theorem imLongF (ls : List Alt) (a : Option Addr) (n c : Nat) (w : World) (hn : n ≤ 1048576) (hl : ls.length = n) (hr : Rd Alt.enc 3 w a ls) (hA : ¬ AOk ls) : Calls Tryd.prog 25 #[.slice a n c] w fun e w' => e = .returned (.tuple #[.int .i64 0, .int .i64 1]) ∧ Below w.heap.size w w' := by
  have HL := Lib.hid hl
  have HR := Lib.hid hr
  have HAI : Hid (¬ AOkI ls) := Lib.hid (fun h => hA ((AOk_iff ls).2 h))
  clear hl hr hA
  go_enter Tryd.func25, Tryd.ntmps25
  go_wp2_with fail
  refine (areAlerts_any ls false a n c _ hn HL.out HR.out ⟨(fun h => by cases h), fun h => absurd h HAI.out⟩).mono ?_
  rintro e w1 ⟨rfl, hb1⟩
  have HB1 := Lib.hid hb1
  clear hb1
  go_wp2_with fail
  go_ret2
  exact ⟨rfl, HB1.out⟩
theorem imLong (ls : List Alt) (b : Bool) (a : Option Addr) (n c : Nat) (w : World) (hn : n ≤ 1048576) (hl : ls.length = n) (hr : Rd Alt.enc 3 w a ls) (hb : b = true ↔ AOk ls) : Calls Tryd.prog 25 #[.slice a n c] w fun e w' => e = .returned (.tuple #[.int .i64 (loI b ls), .int .i64 (loC b ls)]) ∧ Below w.heap.size w w' := by
  cases b with
  | true => exact imLongT ls a n c w hn hl hr (hb.1 rfl)
  | false => exact imLongF ls a n c w hn hl hr (fun h => by have := hb.2 h; cases this)
theorem spLongF (ls : List Alt) (a : Option Addr) (n c : Nat) (w : World) (hn : n ≤ 1048576) (hl : ls.length = n) (hr : Rd Alt.enc 3 w a ls) (hA : ¬ AOk ls) : Calls Tryd.prog 26 #[.slice a n c] w fun e w' => e = .returned (.tuple #[.int .i64 0, .int .i64 1]) ∧ Below w.heap.size w w' := by
  have HL := Lib.hid hl
  have HR := Lib.hid hr
  have HAI : Hid (¬ AOk ls) := Lib.hid (fun h => hA h)
  clear hl hr hA
  go_enter Tryd.func26, Tryd.ntmps26
  go_wp2_with fail
  refine (l19List_any ls false a n c _ hn HL.out HR.out ⟨(fun h => by cases h), fun h => absurd h HAI.out⟩).mono ?_
  rintro e w1 ⟨rfl, hb1⟩
  have HB1 := Lib.hid hb1
  clear hb1
  go_wp2_with fail
  go_ret2
  exact ⟨rfl, HB1.out⟩
theorem spLong (ls : List Alt) (b : Bool) (a : Option Addr) (n c : Nat) (w : World) (hn : n ≤ 1048576) (hl : ls.length = n) (hr : Rd Alt.enc 3 w a ls) (hb : b = true ↔ AOk ls) : Calls Tryd.prog 26 #[.slice a n c] w fun e w' => e = .returned (.tuple #[.int .i64 (loI b ls), .int .i64 (loC b ls)]) ∧ Below w.heap.size w w' := by
  cases b with
  | true => exact spLongT ls a n c w hn hl hr (hb.1 rfl)
  | false => exact spLongF ls a n c w hn hl hr (fun h => by have := hb.2 h; cases this)
set_option maxHeartbeats 4000000 in
theorem imQuietT (ls : List Alt) (a : Option Addr) (n c : Nat) (w : World) (hn : n ≤ 1048576) (hl : ls.length = n) (hr : Rd Alt.enc 3 w a ls) (hA : AOk ls) : Calls Tryd.prog 27 #[.slice a n c] w fun e w' => e = .returned (.tuple #[.int .i64 (qtI true ls), .int .i64 (qtC true ls)]) ∧ Below w.heap.size w w' := by
  have HL := Lib.hid hl
  have HR := Lib.hid hr
  have HA := Lib.hid hA
  have HAI : Hid (AOkI ls) := Lib.hid ((AOk_iff ls).1 hA)
  have HAS : Hid (AOk ls) := Lib.hid hA
  have hn50 : n ≤ 50 := by rw [← hl]; exact hA.1
  clear hl hr hA
  by_cases h2 : n < 2
  · have d0 : decide ((n : Int) < 2) = true := decide_eq_true (by omega)
    have d0n : decide (n < 2) = true := decide_eq_true h2
    have HQ := Lib.hid (qt_3 HL.out h2)
    clear h2
    go_enter Tryd.func27, Tryd.ntmps27
    go_wp2_with fail
    refine (areAlerts_any ls true a n c _ hn HL.out HR.out ⟨fun _ => HAI.out, fun _ => rfl⟩).mono ?_
    rintro e w1 ⟨rfl, hb1⟩
    have HB1 := Lib.hid hb1
    have HR1 := Lib.hid (HR.out.below hb1)
    clear hb1
    go_wp2_with fail
    go_ret2
    exact ⟨by obtain ⟨h1, h2⟩ := HQ.out; rw [h1, h2]; rfl, HB1.out⟩
  have d0 : decide ((n : Int) < 2) = false := decide_eq_false (by omega)
  have d0n : decide (n < 2) = false := decide_eq_false h2
  have HQ := Lib.hid (qt_0 HL.out h2)
  have HBD := Lib.hid (fun k => qtK_bd (l := ls) (fun i x hx => HA.out.bd i x hx) k)
  go_enter Tryd.func27, Tryd.ntmps27
  go_wp2_with fail
  refine (areAlerts_any ls true a n c _ hn HL.out HR.out ⟨fun _ => HAI.out, fun _ => rfl⟩).mono ?_
  rintro e w1 ⟨rfl, hb1⟩
  have HB1 := Lib.hid hb1
  have HR1 := Lib.hid (HR.out.below hb1)
  clear hb1
  obtain ⟨b1, o1, hab, hC1⟩ := HR1.out.addr (by rw [HL.out]; omega)
  subst hab
  have HC1 := Lib.hid hC1
  clear hC1
  go_wp2_with fail
  go_loopw [4, 5] (fun mv iv wr => ∃ k : Nat, k + 1 ≤ n ∧ iv = .int .i64 ((k : Int) + 1) ∧ mv = .int .i64 (qtK ls (k + 1)) ∧ Hid (Below w1.heap.size w1 wr)) (fun _ iv _ => n - (intOf iv).toNat)
  case atStart => exact ⟨0, by omega, rfl, by rw [qtK_one], Lib.hid (Below.refl _ _)⟩
  case round =>
  obtain ⟨k, hk, rfl, rfl, HBk⟩ := hrel
  obtain ⟨wA, hwA⟩ : ∃ wx, wx = wr := ⟨_, rfl⟩
  subst hwA
  clear d0 d0n
  by_cases hlt : k + 1 < n
  · obtain ⟨x, hx⟩ : ∃ z, ls[k + 1]? = some z := ⟨_, List.getElem?_eq_getElem (by rw [HL.out]; exact hlt)⟩
    obtain ⟨y, hy⟩ : ∃ z, ls[k]? = some z := ⟨_, List.getElem?_eq_getElem (by rw [HL.out]; omega)⟩
    have hx1 := HA.out.bd _ x hx
    have hy1 := HA.out.bd _ y hy
    have hq := HBD.out (k + 1)
    have HS := Lib.hid (qtK_step hx hy)
    obtain ⟨Q, hQ⟩ : ∃ Q, qtK ls (k + 1) = Q := ⟨_, rfl⟩
    rw [hQ] at hq HS ⊢
    have HQQ := Lib.hid hQ
    clear hQ
    have c0 : wA.cell? ⟨b1, o1 + (k + 1) * 3, none⟩ = some (.int .i64 x.beg) := HC1.out (k + 1) x hx wA HBk.out 0 _ rfl
    have c1 : wA.cell? ⟨b1, o1 + k * 3 + 1, none⟩ = some (.int .i64 y.fin) := HC1.out k y hy wA HBk.out 1 _ rfl
    have i1 : (0 : Int) ≤ (k : Int) + 1 := by omega
    have i2 : (k : Int) + 1 < n := by omega
    have i3 : ((k : Int) + 1).toNat = k + 1 := by omega
    have i4 : IntKind.i64.wrap ((k : Int) + 1 - 1) = (k : Int) := by rw [Int.add_sub_cancel]; exact IntWalk.i64_in _ (by omega)
    have i5 : (0 : Int) ≤ (k : Nat) := by omega
    have i6 : ((k : Nat) : Int) < n := by omega
    have i7 : IntKind.i64.wrap (x.beg - y.fin) = x.beg - y.fin := IntWalk.i64_in _ (by omega)
    have i8 : decide ((k : Int) + 1 < (n : Int)) = true := decide_eq_true (by omega)
    have HM : Hid ((if Q < x.beg - y.fin then x.beg - y.fin else Q) = max Q (x.beg - y.fin)) := Lib.hid (by split <;> omega)
    clear hx hy
    go_wp2_with fail
    go_quiet (fail)
    have hbq := below_drewN (Below.refl wA.heap.size wA) nq
    have HBD2 := Lib.hid (HBk.out.trans (hbq.mono HBk.out.size))
    clear hbq c0 c1 i4
    go_wp2_with fail
    go_roundw
    case rel => exact ⟨k + 1, by omega, by first | rfl | go_num, by first | (rw [HS.out]; done) | (rw [HS.out]; rfl) | (rw [HS.out, ← HM.out]) | (rw [HS.out]; congr 1), HBD2⟩
    case measure => simp [intOf] <;> omega
  · have HKN : Hid (k + 1 = n) := Lib.hid (by omega)
    have i8 : decide ((k : Int) + 1 < (n : Int)) = false := decide_eq_false (by omega)
    have HBE := Lib.hid (HB1.out.trans (HBk.out.mono HB1.out.size))
    go_wp2_with fail
    go_ret2
    exact ⟨by obtain ⟨h1, h2⟩ := HQ.out; rw [h1, h2, ← HKN.out]; rfl, HBE.out⟩
theorem imQuietF (ls : List Alt) (a : Option Addr) (n c : Nat) (w : World) (hn : n ≤ 1048576) (hl : ls.length = n) (hr : Rd Alt.enc 3 w a ls) (hA : ¬ AOk ls) : Calls Tryd.prog 27 #[.slice a n c] w fun e w' => e = .returned (.tuple #[.int .i64 0, .int .i64 1]) ∧ Below w.heap.size w w' := by
  have HL := Lib.hid hl
  have HR := Lib.hid hr
  have HAI : Hid (¬ AOkI ls) := Lib.hid (fun h => hA ((AOk_iff ls).2 h))
  clear hl hr hA
  go_enter Tryd.func27, Tryd.ntmps27
  go_wp2_with fail
  refine (areAlerts_any ls false a n c _ hn HL.out HR.out ⟨(fun h => by cases h), fun h => absurd h HAI.out⟩).mono ?_
  rintro e w1 ⟨rfl, hb1⟩
  have HB1 := Lib.hid hb1
  clear hb1
  go_wp2_with fail
  go_ret2
  exact ⟨rfl, HB1.out⟩
theorem imQuiet (ls : List Alt) (b : Bool) (a : Option Addr) (n c : Nat) (w : World) (hn : n ≤ 1048576) (hl : ls.length = n) (hr : Rd Alt.enc 3 w a ls) (hb : b = true ↔ AOk ls) : Calls Tryd.prog 27 #[.slice a n c] w fun e w' => e = .returned (.tuple #[.int .i64 (qtI b ls), .int .i64 (qtC b ls)]) ∧ Below w.heap.size w w' := by
  cases b with
  | true => exact imQuietT ls a n c w hn hl hr (hb.1 rfl)
  | false => exact imQuietF ls a n c w hn hl hr (fun h => by have := hb.2 h; cases this)
set_option maxHeartbeats 4000000 in
theorem spQuietT (ls : List Alt) (a : Option Addr) (n c : Nat) (w : World) (hn : n ≤ 1048576) (hl : ls.length = n) (hr : Rd Alt.enc 3 w a ls) (hA : AOk ls) : Calls Tryd.prog 28 #[.slice a n c] w fun e w' => e = .returned (.tuple #[.int .i64 (qtI true ls), .int .i64 (qtC true ls)]) ∧ Below w.heap.size w w' := by
  have HL := Lib.hid hl
  have HR := Lib.hid hr
  have HA := Lib.hid hA
  have HAI : Hid (AOkI ls) := Lib.hid ((AOk_iff ls).1 hA)
  have HAS : Hid (AOk ls) := Lib.hid hA
  have hn50 : n ≤ 50 := by rw [← hl]; exact hA.1
  clear hl hr hA
  by_cases h2 : n < 2
  · have d0 : decide ((n : Int) < 2) = true := decide_eq_true (by omega)
    have d0n : decide (n < 2) = true := decide_eq_true h2
    have HQ := Lib.hid (qt_3 HL.out h2)
    clear h2
    go_enter Tryd.func28, Tryd.ntmps28
    go_wp2_with fail
    refine (l19List_any ls true a n c _ hn HL.out HR.out ⟨fun _ => HAS.out, fun _ => rfl⟩).mono ?_
    rintro e w1 ⟨rfl, hb1⟩
    have HB1 := Lib.hid hb1
    have HR1 := Lib.hid (HR.out.below hb1)
    clear hb1
    go_wp2_with fail
    go_ret2
    exact ⟨by obtain ⟨h1, h2⟩ := HQ.out; rw [h1, h2]; rfl, HB1.out⟩
  have d0 : decide ((n : Int) < 2) = false := decide_eq_false (by omega)
  have d0n : decide (n < 2) = false := decide_eq_false h2
  have HQ := Lib.hid (qt_0 HL.out h2)
  have HBD := Lib.hid (fun k => qtK_bd (l := ls) (fun i x hx => HA.out.bd i x hx) k)
  go_enter Tryd.func28, Tryd.ntmps28
  go_wp2_with fail
  refine (l19List_any ls true a n c _ hn HL.out HR.out ⟨fun _ => HAS.out, fun _ => rfl⟩).mono ?_
  rintro e w1 ⟨rfl, hb1⟩
  have HB1 := Lib.hid hb1
  have HR1 := Lib.hid (HR.out.below hb1)
  clear hb1
  obtain ⟨b1, o1, hab, hC1⟩ := HR1.out.addr (by rw [HL.out]; omega)
  subst hab
  have HC1 := Lib.hid hC1
  clear hC1
  go_wp2_with fail
  go_loopw [4, 5] (fun mv iv wr => ∃ k : Nat, k + 1 ≤ n ∧ iv = .int .i64 ((k : Int) + 1) ∧ mv = .int .i64 (qtK ls (k + 1)) ∧ Hid (Below w1.heap.size w1 wr)) (fun _ iv _ => n - (intOf iv).toNat)
  case atStart => exact ⟨0, by omega, rfl, by rw [qtK_one], Lib.hid (Below.refl _ _)⟩
  case round =>
  obtain ⟨k, hk, rfl, rfl, HBk⟩ := hrel
  obtain ⟨wA, hwA⟩ : ∃ wx, wx = wr := ⟨_, rfl⟩
  subst hwA
  clear d0 d0n
  by_cases hlt : k + 1 < n
  · obtain ⟨x, hx⟩ : ∃ z, ls[k + 1]? = some z := ⟨_, List.getElem?_eq_getElem (by rw [HL.out]; exact hlt)⟩
    obtain ⟨y, hy⟩ : ∃ z, ls[k]? = some z := ⟨_, List.getElem?_eq_getElem (by rw [HL.out]; omega)⟩
    have hx1 := HA.out.bd _ x hx
    have hy1 := HA.out.bd _ y hy
    have hq := HBD.out (k + 1)
    have HS := Lib.hid (qtK_step hx hy)
    obtain ⟨Q, hQ⟩ : ∃ Q, qtK ls (k + 1) = Q := ⟨_, rfl⟩
    rw [hQ] at hq HS ⊢
    have HQQ := Lib.hid hQ
    clear hQ
    have c0 : wA.cell? ⟨b1, o1 + (k + 1) * 3, none⟩ = some (.int .i64 x.beg) := HC1.out (k + 1) x hx wA HBk.out 0 _ rfl
    have c1 : wA.cell? ⟨b1, o1 + k * 3 + 1, none⟩ = some (.int .i64 y.fin) := HC1.out k y hy wA HBk.out 1 _ rfl
    have i1 : (0 : Int) ≤ (k : Int) + 1 := by omega
    have i2 : (k : Int) + 1 < n := by omega
    have i3 : ((k : Int) + 1).toNat = k + 1 := by omega
    have i4 : IntKind.i64.wrap ((k : Int) + 1 - 1) = (k : Int) := by rw [Int.add_sub_cancel]; exact IntWalk.i64_in _ (by omega)
    have i5 : (0 : Int) ≤ (k : Nat) := by omega
    have i6 : ((k : Nat) : Int) < n := by omega
    have i7 : IntKind.i64.wrap (x.beg - y.fin) = x.beg - y.fin := IntWalk.i64_in _ (by omega)
    have i8 : decide ((k : Int) + 1 < (n : Int)) = true := decide_eq_true (by omega)
    have HM : Hid (∀ wq, Calls Tryd.prog 66 #[.int .i64 Q, .int .i64 (x.beg - y.fin)] wq fun e w' => e = .returned (.int .i64 (max Q (x.beg - y.fin))) ∧ wq = w') := Lib.hid fun wq => l00Max_any _ _ wq
    clear hx hy
    go_wp2_with fail
    go_quiet ((go_at_call 66; exact quiet_sameT (HM.out _)))
    have hbq := below_drewN (Below.refl wA.heap.size wA) nq
    have HBD2 := Lib.hid (HBk.out.trans (hbq.mono HBk.out.size))
    clear hbq c0 c1 i4
    go_wp2_with fail
    go_roundw
    case rel => exact ⟨k + 1, by omega, by first | rfl | go_num, by rw [HS.out], HBD2⟩
    case measure => simp [intOf] <;> omega
  · have HKN : Hid (k + 1 = n) := Lib.hid (by omega)
    have i8 : decide ((k : Int) + 1 < (n : Int)) = false := decide_eq_false (by omega)
    have HBE := Lib.hid (HB1.out.trans (HBk.out.mono HB1.out.size))
    go_wp2_with fail
    go_ret2
    exact ⟨by obtain ⟨h1, h2⟩ := HQ.out; rw [h1, h2, ← HKN.out]; rfl, HBE.out⟩
theorem spQuietF (ls : List Alt) (a : Option Addr) (n c : Nat) (w : World) (hn : n ≤ 1048576) (hl : ls.length = n) (hr : Rd Alt.enc 3 w a ls) (hA : ¬ AOk ls) : Calls Tryd.prog 28 #[.slice a n c] w fun e w' => e = .returned (.tuple #[.int .i64 0, .int .i64 1]) ∧ Below w.heap.size w w' := by
  have HL := Lib.hid hl
  have HR := Lib.hid hr
  have HAI : Hid (¬ AOk ls) := Lib.hid (fun h => hA h)
  clear hl hr hA
  go_enter Tryd.func28, Tryd.ntmps28
  go_wp2_with fail
  refine (l19List_any ls false a n c _ hn HL.out HR.out ⟨(fun h => by cases h), fun h => absurd h HAI.out⟩).mono ?_
  rintro e w1 ⟨rfl, hb1⟩
  have HB1 := Lib.hid hb1
  clear hb1
  go_wp2_with fail
  go_ret2
  exact ⟨rfl, HB1.out⟩
theorem spQuiet (ls : List Alt) (b : Bool) (a : Option Addr) (n c : Nat) (w : World) (hn : n ≤ 1048576) (hl : ls.length = n) (hr : Rd Alt.enc 3 w a ls) (hb : b = true ↔ AOk ls) : Calls Tryd.prog 28 #[.slice a n c] w fun e w' => e = .returned (.tuple #[.int .i64 (qtI b ls), .int .i64 (qtC b ls)]) ∧ Below w.heap.size w w' := by
  cases b with
  | true => exact spQuietT ls a n c w hn hl hr (hb.1 rfl)
  | false => exact spQuietF ls a n c w hn hl hr (fun h => by have := hb.2 h; cases this)
end Go.Proofs.YtjmojfbebcgjeaaDoor
