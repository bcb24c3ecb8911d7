/-
  Lists of extrema and what is asked of them: the program and the reference.
-/
import Derived.Test.YtjmojfbebcgjeaaDoorPk1
import Derived.Deep.RegionHeld3
import Derived.Laws.ResultCell
namespace Go.Proofs.YtjmojfbebcgjeaaDoor
open Go.RowKit
set_option maxRecDepth 100000
set_option linter.unusedVariables false
set_option linter.unusedSimpArgs false
theorem eo_no {N : Nat} {l : List Ext} {k m : Nat} {x : Ext} (hk : k < m) (h : l[k]? = some x) (hb : inB x.kind 1 2 = false ∨ inB x.idx 0 ((N : Int) - 1) = false ∨ (∃ y : Ext, 0 < k ∧ l[k - 1]? = some y ∧ x.idx ≤ y.idx)) : eoN N l m = false := by
  refine eoN_bad hk ?_
  cases k with
  | zero =>
    rw [eoB_0 h]
    rcases hb with hb | hb | ⟨y, h0, _⟩
    · rw [hb]; rfl
    · rw [hb]; simp
    · omega
  | succ j =>
    obtain ⟨y, hy⟩ : ∃ z, l[j]? = some z := ⟨_, List.getElem?_eq_getElem (by have := (List.getElem?_eq_some_iff.1 h).1; omega)⟩
    rw [eoB_s h hy]
    rcases hb with hb | hb | ⟨z, _, hz, hb⟩
    · rw [hb]; rfl
    · rw [hb]; simp
    · rw [Nat.add_sub_cancel, hy] at hz
      cases hz
      rw [decide_eq_false (by omega)]; simp
theorem eo_yes {N : Nat} {l : List Ext} {k : Nat} {x : Ext} (hn : eoN N l k = true) (h : l[k]? = some x) (h1 : inB x.kind 1 2 = true) (h2 : inB x.idx 0 ((N : Int) - 1) = true) (hb : ¬ 0 < k ∨ ∃ y : Ext, l[k - 1]? = some y ∧ y.idx < x.idx) : eoN N l (k + 1) = true := by
  show (eoN N l k && eoB N l k) = true
  rw [hn, Bool.true_and]
  cases k with
  | zero => rw [eoB_0 h, h1, h2]; rfl
  | succ j =>
    rcases hb with hb | ⟨y, hy, hb⟩
    · omega
    · rw [Nat.add_sub_cancel] at hy
      rw [eoB_s h hy, h1, h2, decide_eq_true hb]; rfl
theorem countPk_any (a : Option Addr) (n c : Nat) (w : World) : Calls Tryd.prog 78 #[.slice a n c] w fun e w' => e = .returned (.int .i64 n) ∧ w = w' := by
  go_enter Tryd.func78, Tryd.ntmps78
  go_wp2_with fail
  go_ret
  exact ⟨rfl, rfl⟩
set_option maxHeartbeats 4000000 in
theorem areEx_any (l : List Ext) (a : Option Addr) (n c : Nat) (al : Option Addr) (m cl : Nat) (w : World) (hn : n ≤ 1048576) (hm : m ≤ 1048576) (hll : l.length = m) (hrl : Rd Ext.enc 2 w al l) : Calls Tryd.prog 47 #[.slice a n c, .slice al m cl] w fun e w' => e = .returned (.bool (eoN n l m)) ∧ Below w.heap.size w w' := by
  have HLl := Lib.hid hll
  have HRl := Lib.hid hrl
  clear hll hrl
  go_enter Tryd.func47, Tryd.ntmps47
  go_wp2_with fail
  go_loopw [9] (fun i wr => ∃ (k : Nat), k ≤ m ∧ i = .int .i64 k ∧ Hid (eoN n l k = true) ∧ Hid (Below w.heap.size w wr)) (fun i _ => m - (intOf i).toNat)
  case atStart => exact ⟨0, Nat.zero_le _, rfl, Lib.hid rfl, Lib.hid (Below.refl _ _)⟩
  case round =>
    obtain ⟨k, hk, rfl, HEN, HBk⟩ := hrel
    obtain ⟨wr1, hwr⟩ : ∃ wx, wx = wr := ⟨_, rfl⟩
    subst hwr
    have HB2 := HBk
    clear HBk
    by_cases hlt : k < m
    · obtain ⟨x, hx⟩ : ∃ z, (l)[k]? = some z := ⟨_, List.getElem?_eq_getElem (by rw [HLl.out]; omega)⟩
      have HXx := Lib.hid hx
      clear hx
      obtain ⟨y, HXy⟩ : ∃ z : Ext, 0 < k → Hid (l[k - 1]? = some z) := by
        by_cases h9 : 0 < k
        · have h8 : l[k - 1]? = some (l[k - 1]'(by rw [HLl.out]; omega)) := List.getElem?_eq_getElem (by rw [HLl.out]; omega)
          exact ⟨_, fun _ => Lib.hid h8⟩
        · exact ⟨⟨0, 0⟩, fun h8 => absurd h8 h9⟩
      cases hc20 : inB x.kind 1 2 with
      | false =>
        obtain ⟨b21, o22, hab, HC23⟩ := HRl.out.addr (by rw [HLl.out]; omega)
        have HC23_ := Lib.hid HC23
        clear HC23
        have HC23 := HC23_
        clear HC23_
        subst hab
        have c24 : wr1.cell? ⟨b21, o22 + k * 2, none⟩ = some (.int .i64 x.kind) := HC23.out k x HXx.out wr1 HB2.out 0 _ rfl
        have c25 : wr1.cell? ⟨b21, o22 + k * 2 + 1, none⟩ = some (.int .i64 x.idx) := HC23.out k x HXx.out wr1 HB2.out 1 _ rfl
        have j26 : (0 : Int) ≤ (k : Nat) := by omega
        have j27 : ((k : Nat) : Int) < m := by omega
        have HX28 := CAt.new wr1 #[.int .i64 x.kind, .int .i64 x.idx] 43
        have hb29 := (Below.refl wr1.heap.size wr1).alloc (Nat.le_refl _) (.cells #[.int .i64 x.kind, .int .i64 x.idx] 43)
        obtain ⟨wv31, HW32⟩ : ∃ wx, wr1.alloc (.cells #[.int .i64 x.kind, .int .i64 x.idx] 43) = wx := ⟨_, rfl⟩
        obtain ⟨g30, HG33⟩ : ∃ gx, wr1.heap.size = gx := ⟨_, rfl⟩
        rw [HW32] at HX28 hb29
        rw [HG33] at HX28
        have hge34 : w.heap.size ≤ g30 := by rw [← HG33]; exact HB2.out.size
        have HX28_ := Lib.hid HX28
        clear HX28
        have HX28 := HX28_
        clear HX28_
        have HW32_ := Lib.hid HW32
        clear HW32
        have HW32 := HW32_
        clear HW32_
        have HG33_ := Lib.hid HG33
        clear HG33
        have HG33 := HG33_
        clear HG33_
        have HB35 : Hid (Below w.heap.size w wv31) := Lib.hid (HB2.out.trans (hb29.mono HB2.out.size))
        clear hb29
        go_upto_region 4 with (fail)
        rw [HW32.out]
        rw [HG33.out]
        clear c24 c25 j26 j27
        have c36 : wv31.cell? ⟨g30, 0, none⟩ = some (.int .i64 x.kind) := HX28.out.cell 0
        have c37 : wv31.cell? ⟨g30, 1, none⟩ = some (.int .i64 x.idx) := HX28.out.cell 1
        go_wp2_with fail
        go_quiet ((first | (go_at_call 40; exact quiet_sameT (in_any x.kind 1 2 _)) ))
        have hbq : Below wv31.heap.size wv31 (wv31.drewN nq) := below_drewN (Below.refl _ _) nq
        obtain ⟨wv38, hwq⟩ : ∃ wq, wv31.drewN nq = wq := ⟨_, rfl⟩
        rw [hwq] at hbq ⊢
        clear hwq
        clear c36 c37
        have HB39 : Hid (Below w.heap.size w wv38) := Lib.hid (HB35.out.trans (hbq.mono HB35.out.size))
        have HX40 := Lib.hid (HX28.out.below hbq)
        clear hbq
        go_wp2_with fail
        go_ret
        exact ⟨by rw [eo_no hlt HXx.out (by first | exact .inl (by assumption) | exact .inr (.inl (by assumption)) | exact .inr (.inr ⟨y, by omega, (HXy (by omega)).out, by omega⟩))]; rfl, HB39.out⟩
      | true =>
        cases hc59 : inB x.idx 0 ((n : Int) - 1) with
        | false =>
          obtain ⟨b60, o61, hab, HC62⟩ := HRl.out.addr (by rw [HLl.out]; omega)
          have HC62_ := Lib.hid HC62
          clear HC62
          have HC62 := HC62_
          clear HC62_
          subst hab
          have c63 : wr1.cell? ⟨b60, o61 + k * 2, none⟩ = some (.int .i64 x.kind) := HC62.out k x HXx.out wr1 HB2.out 0 _ rfl
          have c64 : wr1.cell? ⟨b60, o61 + k * 2 + 1, none⟩ = some (.int .i64 x.idx) := HC62.out k x HXx.out wr1 HB2.out 1 _ rfl
          have j65 : (0 : Int) ≤ (k : Nat) := by omega
          have j66 : ((k : Nat) : Int) < m := by omega
          have HX67 := CAt.new wr1 #[.int .i64 x.kind, .int .i64 x.idx] 43
          have hb68 := (Below.refl wr1.heap.size wr1).alloc (Nat.le_refl _) (.cells #[.int .i64 x.kind, .int .i64 x.idx] 43)
          obtain ⟨wv70, HW71⟩ : ∃ wx, wr1.alloc (.cells #[.int .i64 x.kind, .int .i64 x.idx] 43) = wx := ⟨_, rfl⟩
          obtain ⟨g69, HG72⟩ : ∃ gx, wr1.heap.size = gx := ⟨_, rfl⟩
          rw [HW71] at HX67 hb68
          rw [HG72] at HX67
          have hge73 : w.heap.size ≤ g69 := by rw [← HG72]; exact HB2.out.size
          have HX67_ := Lib.hid HX67
          clear HX67
          have HX67 := HX67_
          clear HX67_
          have HW71_ := Lib.hid HW71
          clear HW71
          have HW71 := HW71_
          clear HW71_
          have HG72_ := Lib.hid HG72
          clear HG72
          have HG72 := HG72_
          clear HG72_
          have HB74 : Hid (Below w.heap.size w wv70) := Lib.hid (HB2.out.trans (hb68.mono HB2.out.size))
          clear hb68
          go_upto_region 4 with (fail)
          rw [HW71.out]
          rw [HG72.out]
          clear c63 c64 j65 j66
          have c75 : wv70.cell? ⟨g69, 0, none⟩ = some (.int .i64 x.kind) := HX67.out.cell 0
          have c76 : wv70.cell? ⟨g69, 1, none⟩ = some (.int .i64 x.idx) := HX67.out.cell 1
          have i77 : IntKind.i64.wrap ((n : Int) - 1) = (n : Int) - 1 := IntWalk.i64_in _ (by omega)
          go_wp2_with fail
          go_quiet ((first | (go_at_call 40; (with_reducible exact quiet_sameT (in_any x.kind 1 2 _))) | (go_at_call 78; exact quiet_sameT (countPk_any a n c _)) | (go_at_call 40; (with_reducible exact quiet_sameT (in_any x.idx 0 ((n : Int) - 1) _))) ))
          have hbq : Below wv70.heap.size wv70 (wv70.drewN nq) := below_drewN (Below.refl _ _) nq
          obtain ⟨wv78, hwq⟩ : ∃ wq, wv70.drewN nq = wq := ⟨_, rfl⟩
          rw [hwq] at hbq ⊢
          clear hwq
          clear c75 c76 i77
          have HB79 : Hid (Below w.heap.size w wv78) := Lib.hid (HB74.out.trans (hbq.mono HB74.out.size))
          have HX80 := Lib.hid (HX67.out.below hbq)
          clear hbq
          go_wp2_with fail
          go_ret
          exact ⟨by rw [eo_no hlt HXx.out (by first | exact .inl (by assumption) | exact .inr (.inl (by assumption)) | exact .inr (.inr ⟨y, by omega, (HXy (by omega)).out, by omega⟩))]; rfl, HB79.out⟩
        | true =>
          by_cases hc99 : 0 < (k : Int)
          · have d100 : decide (0 < (k : Int)) = true := decide_eq_true hc99
            have d100n : decide (0 < k) = true := decide_eq_true (by omega)
            obtain ⟨b101, o102, hab, HC103⟩ := HRl.out.addr (by rw [HLl.out]; omega)
            have HC103_ := Lib.hid HC103
            clear HC103
            have HC103 := HC103_
            clear HC103_
            subst hab
            have c104 : wr1.cell? ⟨b101, o102 + k * 2, none⟩ = some (.int .i64 x.kind) := HC103.out k x HXx.out wr1 HB2.out 0 _ rfl
            have c105 : wr1.cell? ⟨b101, o102 + k * 2 + 1, none⟩ = some (.int .i64 x.idx) := HC103.out k x HXx.out wr1 HB2.out 1 _ rfl
            have j106 : (0 : Int) ≤ (k : Nat) := by omega
            have j107 : ((k : Nat) : Int) < m := by omega
            have HX108 := CAt.new wr1 #[.int .i64 x.kind, .int .i64 x.idx] 43
            have hb109 := (Below.refl wr1.heap.size wr1).alloc (Nat.le_refl _) (.cells #[.int .i64 x.kind, .int .i64 x.idx] 43)
            obtain ⟨wv111, HW112⟩ : ∃ wx, wr1.alloc (.cells #[.int .i64 x.kind, .int .i64 x.idx] 43) = wx := ⟨_, rfl⟩
            obtain ⟨g110, HG113⟩ : ∃ gx, wr1.heap.size = gx := ⟨_, rfl⟩
            rw [HW112] at HX108 hb109
            rw [HG113] at HX108
            have hge114 : w.heap.size ≤ g110 := by rw [← HG113]; exact HB2.out.size
            have HX108_ := Lib.hid HX108
            clear HX108
            have HX108 := HX108_
            clear HX108_
            have HW112_ := Lib.hid HW112
            clear HW112
            have HW112 := HW112_
            clear HW112_
            have HG113_ := Lib.hid HG113
            clear HG113
            have HG113 := HG113_
            clear HG113_
            have HB115 : Hid (Below w.heap.size w wv111) := Lib.hid (HB2.out.trans (hb109.mono HB2.out.size))
            clear hb109
            go_upto_region 4 with (fail)
            rw [HW112.out]
            rw [HG113.out]
            clear c104 c105 j106 j107
            have c116 : wv111.cell? ⟨g110, 0, none⟩ = some (.int .i64 x.kind) := HX108.out.cell 0
            have c117 : wv111.cell? ⟨g110, 1, none⟩ = some (.int .i64 x.idx) := HX108.out.cell 1
            have i118 : IntKind.i64.wrap ((n : Int) - 1) = (n : Int) - 1 := IntWalk.i64_in _ (by omega)
            have i119 : IntKind.i64.wrap ((k : Int) - 1) = (k : Int) - 1 := IntWalk.i64_in _ (by omega)
            have c120 : wv111.cell? ⟨b101, o102 + (k - 1) * 2 + 1, none⟩ = some (.int .i64 y.idx) := HC103.out (k - 1) y (HXy (by omega)).out wv111 HB115.out 1 _ rfl
            have j121 : (0 : Int) ≤ (k : Int) - 1 := by omega
            have j122 : (k : Int) - 1 < (m : Int) := by omega
            have j123 : ((k : Int) - 1).toNat = k - 1 := by omega
            go_wp2_with fail
            go_quiet ((first | (go_at_call 40; (with_reducible exact quiet_sameT (in_any x.kind 1 2 _))) | (go_at_call 78; exact quiet_sameT (countPk_any a n c _)) | (go_at_call 40; (with_reducible exact quiet_sameT (in_any x.idx 0 ((n : Int) - 1) _))) ))
            have hbq : Below wv111.heap.size wv111 (wv111.drewN nq) := below_drewN (Below.refl _ _) nq
            obtain ⟨wv124, hwq⟩ : ∃ wq, wv111.drewN nq = wq := ⟨_, rfl⟩
            rw [hwq] at hbq ⊢
            clear hwq
            clear c116 c117 i118 i119 c120 j121 j122 j123
            have HB125 : Hid (Below w.heap.size w wv124) := Lib.hid (HB115.out.trans (hbq.mono HB115.out.size))
            have HX126 := Lib.hid (HX108.out.below hbq)
            clear hbq
            by_cases hc127 : x.idx ≤ y.idx
            · have d128 : decide (x.idx ≤ y.idx) = true := decide_eq_true hc127
              go_wp2_with fail
              go_ret
              exact ⟨by rw [eo_no hlt HXx.out (by first | exact .inl (by assumption) | exact .inr (.inl (by assumption)) | exact .inr (.inr ⟨y, by omega, (HXy (by omega)).out, by omega⟩))]; rfl, HB125.out⟩
            · have d129 : decide (x.idx ≤ y.idx) = false := decide_eq_false hc127
              have i130 : IntKind.i64.wrap ((k : Int) + 1) = (k : Int) + 1 := IntWalk.i64_in _ (by omega)
              go_wp2_with fail
              go_roundw
              case rel => exact ⟨k + 1, by omega, by go_num, Lib.hid (eo_yes HEN.out HXx.out (by assumption) (by assumption) (by first | exact .inl (by omega) | exact .inr ⟨y, (HXy (by omega)).out, by omega⟩)), HB125⟩
              case measure => simp [intOf] <;> omega
          · have d131 : decide (0 < (k : Int)) = false := decide_eq_false hc99
            have d131n : decide (0 < k) = false := decide_eq_false (by omega)
            obtain ⟨b132, o133, hab, HC134⟩ := HRl.out.addr (by rw [HLl.out]; omega)
            have HC134_ := Lib.hid HC134
            clear HC134
            have HC134 := HC134_
            clear HC134_
            subst hab
            have c135 : wr1.cell? ⟨b132, o133 + k * 2, none⟩ = some (.int .i64 x.kind) := HC134.out k x HXx.out wr1 HB2.out 0 _ rfl
            have c136 : wr1.cell? ⟨b132, o133 + k * 2 + 1, none⟩ = some (.int .i64 x.idx) := HC134.out k x HXx.out wr1 HB2.out 1 _ rfl
            have j137 : (0 : Int) ≤ (k : Nat) := by omega
            have j138 : ((k : Nat) : Int) < m := by omega
            have HX139 := CAt.new wr1 #[.int .i64 x.kind, .int .i64 x.idx] 43
            have hb140 := (Below.refl wr1.heap.size wr1).alloc (Nat.le_refl _) (.cells #[.int .i64 x.kind, .int .i64 x.idx] 43)
            obtain ⟨wv142, HW143⟩ : ∃ wx, wr1.alloc (.cells #[.int .i64 x.kind, .int .i64 x.idx] 43) = wx := ⟨_, rfl⟩
            obtain ⟨g141, HG144⟩ : ∃ gx, wr1.heap.size = gx := ⟨_, rfl⟩
            rw [HW143] at HX139 hb140
            rw [HG144] at HX139
            have hge145 : w.heap.size ≤ g141 := by rw [← HG144]; exact HB2.out.size
            have HX139_ := Lib.hid HX139
            clear HX139
            have HX139 := HX139_
            clear HX139_
            have HW143_ := Lib.hid HW143
            clear HW143
            have HW143 := HW143_
            clear HW143_
            have HG144_ := Lib.hid HG144
            clear HG144
            have HG144 := HG144_
            clear HG144_
            have HB146 : Hid (Below w.heap.size w wv142) := Lib.hid (HB2.out.trans (hb140.mono HB2.out.size))
            clear hb140
            go_upto_region 4 with (fail)
            rw [HW143.out]
            rw [HG144.out]
            clear c135 c136 j137 j138
            have c147 : wv142.cell? ⟨g141, 0, none⟩ = some (.int .i64 x.kind) := HX139.out.cell 0
            have c148 : wv142.cell? ⟨g141, 1, none⟩ = some (.int .i64 x.idx) := HX139.out.cell 1
            have i149 : IntKind.i64.wrap ((n : Int) - 1) = (n : Int) - 1 := IntWalk.i64_in _ (by omega)
            go_wp2_with fail
            go_quiet ((first | (go_at_call 40; (with_reducible exact quiet_sameT (in_any x.kind 1 2 _))) | (go_at_call 78; exact quiet_sameT (countPk_any a n c _)) | (go_at_call 40; (with_reducible exact quiet_sameT (in_any x.idx 0 ((n : Int) - 1) _))) ))
            have hbq : Below wv142.heap.size wv142 (wv142.drewN nq) := below_drewN (Below.refl _ _) nq
            obtain ⟨wv150, hwq⟩ : ∃ wq, wv142.drewN nq = wq := ⟨_, rfl⟩
            rw [hwq] at hbq ⊢
            clear hwq
            clear c147 c148 i149
            have HB151 : Hid (Below w.heap.size w wv150) := Lib.hid (HB146.out.trans (hbq.mono HB146.out.size))
            have HX152 := Lib.hid (HX139.out.below hbq)
            clear hbq
            have i153 : IntKind.i64.wrap ((k : Int) + 1) = (k : Int) + 1 := IntWalk.i64_in _ (by omega)
            go_wp2_with fail
            go_roundw
            case rel => exact ⟨k + 1, by omega, by go_num, Lib.hid (eo_yes HEN.out HXx.out (by assumption) (by assumption) (by first | exact .inl (by omega) | exact .inr ⟨y, (HXy (by omega)).out, by omega⟩)), HB151⟩
            case measure => simp [intOf] <;> omega
    · have hkn : k = m := by omega
      have HKN := Lib.hid hkn
      clear hkn
      go_wp2_with fail
      go_ret
      exact ⟨by rw [← HKN.out, HEN.out]; rfl, HB2.out⟩
set_option maxHeartbeats 4000000 in
theorem l12List_any (l : List Ext) (a : Option Addr) (n c : Nat) (al : Option Addr) (m cl : Nat) (w : World) (hn : n ≤ 1048576) (hm : m ≤ 1048576) (hll : l.length = m) (hrl : Rd Ext.enc 2 w al l) : Calls Tryd.prog 50 #[.slice a n c, .slice al m cl] w fun e w' => e = .returned (.bool (eoN n l m)) ∧ Below w.heap.size w w' := by
  have HLl := Lib.hid hll
  have HRl := Lib.hid hrl
  clear hll hrl
  go_enter Tryd.func50, Tryd.ntmps50
  go_wp2_with fail
  go_loopw [5] (fun i wr => ∃ (k : Nat), k ≤ m ∧ i = .int .i64 k ∧ Hid (eoN n l k = true) ∧ Hid (Below w.heap.size w wr)) (fun i _ => m - (intOf i).toNat)
  case atStart => exact ⟨0, Nat.zero_le _, rfl, Lib.hid rfl, Lib.hid (Below.refl _ _)⟩
  case round =>
    obtain ⟨k, hk, rfl, HEN, HBk⟩ := hrel
    obtain ⟨wr1, hwr⟩ : ∃ wx, wx = wr := ⟨_, rfl⟩
    subst hwr
    have HB2 := HBk
    clear HBk
    by_cases hlt : k < m
    · obtain ⟨x, hx⟩ : ∃ z, (l)[k]? = some z := ⟨_, List.getElem?_eq_getElem (by rw [HLl.out]; omega)⟩
      have HXx := Lib.hid hx
      clear hx
      obtain ⟨y, HXy⟩ : ∃ z : Ext, 0 < k → Hid (l[k - 1]? = some z) := by
        by_cases h9 : 0 < k
        · have h8 : l[k - 1]? = some (l[k - 1]'(by rw [HLl.out]; omega)) := List.getElem?_eq_getElem (by rw [HLl.out]; omega)
          exact ⟨_, fun _ => Lib.hid h8⟩
        · exact ⟨⟨0, 0⟩, fun h8 => absurd h8 h9⟩
      cases hc9 : inB x.kind 1 2 with
      | false =>
        obtain ⟨b10, o11, hab, HC12⟩ := HRl.out.addr (by rw [HLl.out]; omega)
        have HC12_ := Lib.hid HC12
        clear HC12
        have HC12 := HC12_
        clear HC12_
        subst hab
        have c13 : wr1.cell? ⟨b10, o11 + k * 2, none⟩ = some (.int .i64 x.kind) := HC12.out k x HXx.out wr1 HB2.out 0 _ rfl
        have j14 : (0 : Int) ≤ (k : Nat) := by omega
        have j15 : ((k : Nat) : Int) < m := by omega
        go_wp2_with fail
        go_quiet ((first | (go_at_call 51; exact quiet_sameT (l00In_any x.kind 1 2 _)) ))
        have hbq : Below wr1.heap.size wr1 (wr1.drewN nq) := below_drewN (Below.refl _ _) nq
        obtain ⟨wv16, hwq⟩ : ∃ wq, wr1.drewN nq = wq := ⟨_, rfl⟩
        rw [hwq] at hbq ⊢
        clear hwq
        clear c13 j14 j15
        have HB17 : Hid (Below w.heap.size w wv16) := Lib.hid (HB2.out.trans (hbq.mono HB2.out.size))
        clear hbq
        go_wp2_with fail
        go_ret
        exact ⟨by rw [eo_no hlt HXx.out (by first | exact .inl (by assumption) | exact .inr (.inl (by assumption)) | exact .inr (.inr ⟨y, by omega, (HXy (by omega)).out, by omega⟩))]; rfl, HB17.out⟩
      | true =>
        cases hc26 : inB x.idx 0 ((n : Int) - 1) with
        | false =>
          obtain ⟨b27, o28, hab, HC29⟩ := HRl.out.addr (by rw [HLl.out]; omega)
          have HC29_ := Lib.hid HC29
          clear HC29
          have HC29 := HC29_
          clear HC29_
          subst hab
          have c30 : wr1.cell? ⟨b27, o28 + k * 2, none⟩ = some (.int .i64 x.kind) := HC29.out k x HXx.out wr1 HB2.out 0 _ rfl
          have j31 : (0 : Int) ≤ (k : Nat) := by omega
          have j32 : ((k : Nat) : Int) < m := by omega
          have c33 : wr1.cell? ⟨b27, o28 + k * 2 + 1, none⟩ = some (.int .i64 x.idx) := HC29.out k x HXx.out wr1 HB2.out 1 _ rfl
          have i34 : IntKind.i64.wrap ((n : Int) - 1) = (n : Int) - 1 := IntWalk.i64_in _ (by omega)
          go_wp2_with fail
          go_quiet ((first | (go_at_call 51; (with_reducible exact quiet_sameT (l00In_any x.kind 1 2 _))) | (go_at_call 51; (with_reducible exact quiet_sameT (l00In_any x.idx 0 ((n : Int) - 1) _))) ))
          have hbq : Below wr1.heap.size wr1 (wr1.drewN nq) := below_drewN (Below.refl _ _) nq
          obtain ⟨wv35, hwq⟩ : ∃ wq, wr1.drewN nq = wq := ⟨_, rfl⟩
          rw [hwq] at hbq ⊢
          clear hwq
          clear c30 j31 j32 c33 i34
          have HB36 : Hid (Below w.heap.size w wv35) := Lib.hid (HB2.out.trans (hbq.mono HB2.out.size))
          clear hbq
          go_wp2_with fail
          go_ret
          exact ⟨by rw [eo_no hlt HXx.out (by first | exact .inl (by assumption) | exact .inr (.inl (by assumption)) | exact .inr (.inr ⟨y, by omega, (HXy (by omega)).out, by omega⟩))]; rfl, HB36.out⟩
        | true =>
          by_cases hc45 : 0 < (k : Int)
          · have d46 : decide (0 < (k : Int)) = true := decide_eq_true hc45
            have d46n : decide (0 < k) = true := decide_eq_true (by omega)
            obtain ⟨b47, o48, hab, HC49⟩ := HRl.out.addr (by rw [HLl.out]; omega)
            have HC49_ := Lib.hid HC49
            clear HC49
            have HC49 := HC49_
            clear HC49_
            subst hab
            have c50 : wr1.cell? ⟨b47, o48 + k * 2, none⟩ = some (.int .i64 x.kind) := HC49.out k x HXx.out wr1 HB2.out 0 _ rfl
            have j51 : (0 : Int) ≤ (k : Nat) := by omega
            have j52 : ((k : Nat) : Int) < m := by omega
            have c53 : wr1.cell? ⟨b47, o48 + k * 2 + 1, none⟩ = some (.int .i64 x.idx) := HC49.out k x HXx.out wr1 HB2.out 1 _ rfl
            have i54 : IntKind.i64.wrap ((n : Int) - 1) = (n : Int) - 1 := IntWalk.i64_in _ (by omega)
            have i55 : IntKind.i64.wrap ((k : Int) - 1) = (k : Int) - 1 := IntWalk.i64_in _ (by omega)
            have c56 : wr1.cell? ⟨b47, o48 + (k - 1) * 2 + 1, none⟩ = some (.int .i64 y.idx) := HC49.out (k - 1) y (HXy (by omega)).out wr1 HB2.out 1 _ rfl
            have j57 : (0 : Int) ≤ (k : Int) - 1 := by omega
            have j58 : (k : Int) - 1 < (m : Int) := by omega
            have j59 : ((k : Int) - 1).toNat = k - 1 := by omega
            go_wp2_with fail
            go_quiet ((first | (go_at_call 51; (with_reducible exact quiet_sameT (l00In_any x.kind 1 2 _))) | (go_at_call 51; (with_reducible exact quiet_sameT (l00In_any x.idx 0 ((n : Int) - 1) _))) ))
            have hbq : Below wr1.heap.size wr1 (wr1.drewN nq) := below_drewN (Below.refl _ _) nq
            obtain ⟨wv60, hwq⟩ : ∃ wq, wr1.drewN nq = wq := ⟨_, rfl⟩
            rw [hwq] at hbq ⊢
            clear hwq
            clear c50 j51 j52 c53 i54 i55 c56 j57 j58 j59
            have HB61 : Hid (Below w.heap.size w wv60) := Lib.hid (HB2.out.trans (hbq.mono HB2.out.size))
            clear hbq
            by_cases hc62 : x.idx ≤ y.idx
            · have d63 : decide (x.idx ≤ y.idx) = true := decide_eq_true hc62
              go_wp2_with fail
              go_ret
              exact ⟨by rw [eo_no hlt HXx.out (by first | exact .inl (by assumption) | exact .inr (.inl (by assumption)) | exact .inr (.inr ⟨y, by omega, (HXy (by omega)).out, by omega⟩))]; rfl, HB61.out⟩
            · have d64 : decide (x.idx ≤ y.idx) = false := decide_eq_false hc62
              have i65 : IntKind.i64.wrap ((k : Int) + 1) = (k : Int) + 1 := IntWalk.i64_in _ (by omega)
              go_wp2_with fail
              go_roundw
              case rel => exact ⟨k + 1, by omega, by go_num, Lib.hid (eo_yes HEN.out HXx.out (by assumption) (by assumption) (by first | exact .inl (by omega) | exact .inr ⟨y, (HXy (by omega)).out, by omega⟩)), HB61⟩
              case measure => simp [intOf] <;> omega
          · have d66 : decide (0 < (k : Int)) = false := decide_eq_false hc45
            have d66n : decide (0 < k) = false := decide_eq_false (by omega)
            obtain ⟨b67, o68, hab, HC69⟩ := HRl.out.addr (by rw [HLl.out]; omega)
            have HC69_ := Lib.hid HC69
            clear HC69
            have HC69 := HC69_
            clear HC69_
            subst hab
            have c70 : wr1.cell? ⟨b67, o68 + k * 2, none⟩ = some (.int .i64 x.kind) := HC69.out k x HXx.out wr1 HB2.out 0 _ rfl
            have j71 : (0 : Int) ≤ (k : Nat) := by omega
            have j72 : ((k : Nat) : Int) < m := by omega
            have c73 : wr1.cell? ⟨b67, o68 + k * 2 + 1, none⟩ = some (.int .i64 x.idx) := HC69.out k x HXx.out wr1 HB2.out 1 _ rfl
            have i74 : IntKind.i64.wrap ((n : Int) - 1) = (n : Int) - 1 := IntWalk.i64_in _ (by omega)
            go_wp2_with fail
            go_quiet ((first | (go_at_call 51; (with_reducible exact quiet_sameT (l00In_any x.kind 1 2 _))) | (go_at_call 51; (with_reducible exact quiet_sameT (l00In_any x.idx 0 ((n : Int) - 1) _))) ))
            have hbq : Below wr1.heap.size wr1 (wr1.drewN nq) := below_drewN (Below.refl _ _) nq
            obtain ⟨wv75, hwq⟩ : ∃ wq, wr1.drewN nq = wq := ⟨_, rfl⟩
            rw [hwq] at hbq ⊢
            clear hwq
            clear c70 j71 j72 c73 i74
            have HB76 : Hid (Below w.heap.size w wv75) := Lib.hid (HB2.out.trans (hbq.mono HB2.out.size))
            clear hbq
            have i77 : IntKind.i64.wrap ((k : Int) + 1) = (k : Int) + 1 := IntWalk.i64_in _ (by omega)
            go_wp2_with fail
            go_roundw
            case rel => exact ⟨k + 1, by omega, by go_num, Lib.hid (eo_yes HEN.out HXx.out (by assumption) (by assumption) (by first | exact .inl (by omega) | exact .inr ⟨y, (HXy (by omega)).out, by omega⟩)), HB76⟩
            case measure => simp [intOf] <;> omega
    · have hkn : k = m := by omega
      have HKN := Lib.hid hkn
      clear hkn
      go_wp2_with fail
      go_ret
      exact ⟨by rw [← HKN.out, HEN.out]; rfl, HB2.out⟩
end Go.Proofs.YtjmojfbebcgjeaaDoor
