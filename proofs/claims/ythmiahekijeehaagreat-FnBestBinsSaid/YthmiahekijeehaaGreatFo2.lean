/-
  The points of a curve by their phases: the reference.
-/
import Derived.Test.YthmiahekijeehaaGreatSrt
import Derived.Test.YthmiahekijeehaaGreatNiP
import Derived.Test.YthmiahekijeehaaGreatDrawP
import Derived.Test.YthmiahekijeehaaGreatOwnI
namespace Go.Proofs.YthmiahekijeehaaGreat
open Go.RowKit
set_option maxRecDepth 100000
set_option linter.unusedVariables false
set_option maxHeartbeats 1000000 in
theorem insSort_none (a : Option Addr) (c : Nat) (fv : Value) (w : World) : Calls Tryz.prog 100 #[.slice a 0 c, .int .i64 0, .int .i64 0, fv] w fun e w' => e = .returned (.tuple #[]) ∧ w = w' := by
  go_enter Tryz.func100, Tryz.ntmps100
  go_wp2_with fail
  go_loopw [8] (fun i wr => i = .int .i64 1 ∧ w = wr) (fun _ _ => 0)
  case atStart => exact ⟨rfl, rfl⟩
  case round =>
    obtain ⟨rfl, rfl⟩ := hrel
    go_wp2_with fail
    go_end0
    exact ⟨rfl, rfl⟩
set_option maxHeartbeats 1000000 in
theorem stable_none (a : Option Addr) (c : Nat) (fv : Value) (w : World) : Calls Tryz.prog 98 #[.slice a 0 c, .int .i64 0, fv] w fun e w' => e = .returned (.tuple #[]) ∧ w = w' := by
  go_enter Tryz.func98, Tryz.ntmps98
  go_wp2_with fail
  go_loopw [7, 8] (fun p q wr => p = .int .i64 0 ∧ q = .int .i64 20 ∧ w = wr) (fun _ _ _ => 0)
  case atStart => exact ⟨rfl, rfl, rfl⟩
  case round =>
    obtain ⟨rfl, rfl, rfl⟩ := hrel
    go_wp2_with fail
    refine (insSort_none a c fv w).mono ?_
    rintro e w1 ⟨rfl, rfl⟩
    go_wp2_with fail
    go_loopw [6] (fun p wr => p = .int .i64 20 ∧ w = wr) (fun _ _ => 0)
    case atStart => exact ⟨rfl, rfl⟩
    case round =>
      obtain ⟨rfl, rfl⟩ := hrel
      go_wp2_with fail
      go_end0
      exact ⟨rfl, rfl⟩
set_option maxHeartbeats 1000000 in
theorem stable_some (key : Int → Int) (X : List Int) (g n c B0 gb : Nat) (w : World) (hB0 : B0 ≤ w.heap.size) (h1 : 1 ≤ n) (hn : n ≤ 19) (hX : X.Pairwise (· < ·)) (ho : Ow eI 1 w B0 2 (.slice (some ⟨g, 0, none⟩) n c) n X) (hc : CmpOk key X gb B0 w) :
    Calls Tryz.prog 98 #[.slice (some ⟨g, 0, none⟩) n c, .int .i64 n, .func (.func 95) #[] #[.pointer (some ⟨gb, 0, none⟩)]] w fun e w' => e = .returned (.tuple #[]) ∧ ∃ L, SrtOf key X L ∧ Ow eI 1 w' B0 2 (.slice (some ⟨g, 0, none⟩) n c) n L ∧ Below B0 w w' := by
  have HI := Lib.hid (insSort_any key X g n c B0 gb w hB0 h1 (by omega) hX ho hc)
  have d0 : decide ((20 : Int) ≤ (n : Int)) = false := by simp; omega
  have d1 : decide (20 ≤ n) = false := by simp; omega
  have d2 : decide ((20 : Int) < (n : Int)) = false := by simp; omega
  have d3 : decide (20 < n) = false := by simp; omega
  clear ho hc hX
  go_enter Tryz.func98, Tryz.ntmps98
  go_wp2_with fail
  go_loopw [7, 8] (fun p q wr => p = .int .i64 0 ∧ q = .int .i64 20 ∧ w = wr) (fun _ _ _ => 0)
  case atStart => exact ⟨rfl, rfl, rfl⟩
  case round =>
    obtain ⟨rfl, rfl, rfl⟩ := hrel
    go_wp2_with fail
    refine (HI.out).mono ?_
    rintro e w1 ⟨rfl, L, hs, ho, hb⟩
    have HS := Lib.hid hs
    have HO := Lib.hid ho
    have HB := Lib.hid hb
    clear hs ho hb HI
    go_wp2_with fail
    go_loopw [6] (fun p wr => p = .int .i64 20 ∧ w1 = wr) (fun _ _ => 0)
    case atStart => exact ⟨rfl, rfl⟩
    case round =>
      obtain ⟨rfl, rfl⟩ := hrel
      go_wp2_with fail
      go_end0
      exact ⟨rfl, L, HS.out, HO.out, HB.out⟩
set_option maxHeartbeats 1000000 in
theorem SortStable_any (key : Int → Int) (X : List Int) (a : Option Addr) (n c B0 gb : Nat) (w : World) (hB0 : B0 ≤ w.heap.size) (hn : n ≤ 19) (hX : X.Pairwise (· < ·)) (ho : Ow eI 1 w B0 2 (.slice a n c) n X) (hc : CmpOk key X gb B0 w) :
    Calls Tryz.prog 94 #[.slice a n c, .func (.func 95) #[] #[.pointer (some ⟨gb, 0, none⟩)]] w fun e w' => e = .returned (.tuple #[]) ∧ ∃ L, SrtOf key X L ∧ Ow eI 1 w' B0 2 (.slice a n c) n L ∧ Below B0 w w' := by
  by_cases h0 : n = 0
  · subst h0
    have hx0 : X = [] := List.eq_nil_of_length_eq_zero (ho.len eI_len (by decide))
    subst hx0
    have HO := Lib.hid ho
    clear ho hc hX
    go_enter Tryz.func94, Tryz.ntmps94
    go_wp2_with fail
    refine (stable_none a c _ w).mono ?_
    rintro e w1 ⟨rfl, rfl⟩
    go_wp2_with fail
    go_end0
    exact ⟨rfl, [], ⟨List.Perm.refl _, List.Pairwise.nil⟩, HO.out, Below.refl _ _⟩
  · obtain ⟨g, rfl, _, _⟩ := ho.at_ (by omega)
    have HI := Lib.hid (stable_some key X g n c B0 gb w hB0 (by omega) hn hX ho hc)
    clear ho hc hX
    go_enter Tryz.func94, Tryz.ntmps94
    go_wp2_with fail
    refine (HI.out).mono ?_
    rintro e w1 ⟨rfl, L, hs, ho, hb⟩
    have HS := Lib.hid hs
    have HO := Lib.hid ho
    have HB := Lib.hid hb
    clear hs ho hb HI
    go_wp2_with fail
    go_end0
    exact ⟨rfl, L, HS.out, HO.out, HB.out⟩
/-- what is asked of the number -/
def NumOk (key : Int → Int) (n ge gc B : Nat) (w : World) : Prop :=
  ∀ (i : Nat) (w' : World), i < n → Below B w w' → Calls Tryz.prog 89 #[.int .i64 i, .pointer (some ⟨ge, 0, none⟩), .pointer (some ⟨gc, 0, none⟩)] w' fun e w'' => e = .returned (.int .i64 (key i)) ∧ Below w'.heap.size w' w''
def numV (ge gc : Nat) : Value := .func (.func 89) #[] #[.pointer (some ⟨ge, 0, none⟩), .pointer (some ⟨gc, 0, none⟩)]
set_option maxHeartbeats 2000000 in
theorem ordCmp_any (key : Int → Int) (X : List Int) (n gb ge gc B : Nat) (w : World) (hX : ∀ x ∈ X, 0 ≤ x ∧ x < (n : Int)) (hB : B ≤ w.heap.size) (hgb : gb < B) (hc : NumOk key n ge gc B w) (hx : CAt w gb #[.func (.func 89) #[] #[.pointer (some ⟨ge, 0, none⟩), .pointer (some ⟨gc, 0, none⟩)]] 55) : CmpOk key X gb B w := by
  intro i j w0 hi hj hb
  obtain ⟨p, rfl⟩ : ∃ p : Nat, i = p := ⟨i.toNat, by have := hX i hi; omega⟩
  obtain ⟨q, rfl⟩ : ∃ q : Nat, j = q := ⟨j.toNat, by have := hX j hj; omega⟩
  have hp : p < n := by have := hX _ hi; omega
  have hq : q < n := by have := hX _ hj; omega
  have hsz : B ≤ w0.heap.size := Nat.le_trans hB hb.size
  have HX0 := Lib.hid (hx.belowN hb hgb)
  have HD : Hid (Below w0.heap.size w0 w0.drew) := Lib.hid (Below.refl _ _).drew
  have HBD : Hid (Below B w w0.drew) := Lib.hid hb.drew
  have HC1 := Lib.hid (hc p w0.drew hp HBD.out)
  have HC2 : Hid (∀ wz, Below w0.heap.size w0 wz → Calls Tryz.prog 89 #[.int .i64 q, .pointer (some ⟨ge, 0, none⟩), .pointer (some ⟨gc, 0, none⟩)] wz fun e w'' => e = .returned (.int .i64 (key q)) ∧ Below wz.heap.size wz w'') := Lib.hid fun wz hz => hc q wz hq (hb.trans (hz.mono hsz))
  have c0 : w0.cell? ⟨gb, 0, none⟩ = some (.func (.func 89) #[] #[.pointer (some ⟨ge, 0, none⟩), .pointer (some ⟨gc, 0, none⟩)]) := HX0.out.cell 0
  have HS : Hid (∀ wz, Below w0.heap.size w0 wz → wz.cell? ⟨gb, 0, none⟩ = some (.func (.func 89) #[] #[.pointer (some ⟨ge, 0, none⟩), .pointer (some ⟨gc, 0, none⟩)])) := Lib.hid fun wz hz => (hz.cell (lt_of_cell c0)).trans c0
  obtain ⟨kp, hkp⟩ : ∃ z, key p = z := ⟨_, rfl⟩
  obtain ⟨kq, hkq⟩ : ∃ z, key q = z := ⟨_, rfl⟩
  rw [hkp] at HC1 ⊢
  rw [hkq] at HC2 ⊢
  clear hc hx hb hi hj hX hkp hkq c0 HX0 HBD
  by_cases h1 : kp < kq
  · rw [if_pos h1]
    have d0 : (kp != kq) = true := by rw [bne_iff_ne]; omega
    have d1 : decide (kp < kq) = true := decide_eq_true h1
    go_enter Tryz.func95, Tryz.ntmps95
    go_upto_region 1 with (fail)
    go_region_held3 (fun wz : World => wz.cell? ⟨gb, 0, none⟩ = some (.func (.func 89) #[] #[.pointer (some ⟨ge, 0, none⟩), .pointer (some ⟨gc, 0, none⟩)])) (first | (go_keep; done) | exact HS.out _ HD.out | exact HS.out _ HD1.out | exact HS.out _ HD2.out | fail) (first | (go_at_call 89; (with_reducible refine (HC1.out).mono ?_); rintro e w1 ⟨rfl, hb1⟩; have HD1 : Hid (Below w0.heap.size w0 w1) := Lib.hid (HD.out.trans (hb1.mono HD.out.size)); clear hb1) | (go_at_call 89; (with_reducible refine (HC2.out _ HD1.out).mono ?_); rintro e w2 ⟨rfl, hb2⟩; have HD2 : Hid (Below w0.heap.size w0 w2) := Lib.hid (HD1.out.trans (hb2.mono HD1.out.size)); clear hb2))
    go_wp2_with fail
    go_ret
    exact ⟨rfl, HD2.out⟩
  · rw [if_neg h1]
    by_cases h2 : kq < kp
    · rw [if_pos h2]
      have d0 : (kp != kq) = true := by rw [bne_iff_ne]; omega
      have d1 : decide (kp < kq) = false := decide_eq_false h1
      go_enter Tryz.func95, Tryz.ntmps95
      go_upto_region 1 with (fail)
      go_region_held3 (fun wz : World => wz.cell? ⟨gb, 0, none⟩ = some (.func (.func 89) #[] #[.pointer (some ⟨ge, 0, none⟩), .pointer (some ⟨gc, 0, none⟩)])) (first | (go_keep; done) | exact HS.out _ HD.out | exact HS.out _ HD1.out | exact HS.out _ HD2.out | fail) (first | (go_at_call 89; (with_reducible refine (HC1.out).mono ?_); rintro e w1 ⟨rfl, hb1⟩; have HD1 : Hid (Below w0.heap.size w0 w1) := Lib.hid (HD.out.trans (hb1.mono HD.out.size)); clear hb1) | (go_at_call 89; (with_reducible refine (HC2.out _ HD1.out).mono ?_); rintro e w2 ⟨rfl, hb2⟩; have HD2 : Hid (Below w0.heap.size w0 w2) := Lib.hid (HD1.out.trans (hb2.mono HD1.out.size)); clear hb2))
      go_wp2_with fail
      go_ret
      exact ⟨rfl, HD2.out⟩
    · rw [if_neg h2]
      have h3 : kp = kq := by omega
      have d0 : (kp != kq) = false := by rw [bne_eq_false_iff_eq]; exact h3
      subst h3
      go_enter Tryz.func95, Tryz.ntmps95
      go_upto_region 1 with (fail)
      go_region_held3 (fun wz : World => wz.cell? ⟨gb, 0, none⟩ = some (.func (.func 89) #[] #[.pointer (some ⟨ge, 0, none⟩), .pointer (some ⟨gc, 0, none⟩)])) (first | (go_keep; done) | exact HS.out _ HD.out | exact HS.out _ HD1.out | exact HS.out _ HD2.out | fail) (first | (go_at_call 89; (with_reducible refine (HC1.out).mono ?_); rintro e w1 ⟨rfl, hb1⟩; have HD1 : Hid (Below w0.heap.size w0 w1) := Lib.hid (HD.out.trans (hb1.mono HD.out.size)); clear hb1) | (go_at_call 89; (with_reducible refine (HC2.out _ HD1.out).mono ?_); rintro e w2 ⟨rfl, hb2⟩; have HD2 : Hid (Below w0.heap.size w0 w2) := Lib.hid (HD1.out.trans (hb2.mono HD1.out.size)); clear hb2))
      go_wp2_with fail
      go_ret
      exact ⟨rfl, HD2.out⟩
theorem whereT (n : Nat) : whereL n (fun _ => true) = (List.range n).map fun (i : Nat) => (i : Int) := by
  unfold whereL
  rw [List.filter_eq_self.2 fun _ _ => rfl]
theorem whereT_len (n : Nat) : (whereL n fun _ => true).length = n := by simp [whereT]
theorem whereT_mem (n : Nat) : ∀ x ∈ whereL n (fun _ => true), 0 ≤ x ∧ x < (n : Int) := fun x hx => by
  rw [whereT] at hx
  obtain ⟨i, hi, rfl⟩ := List.mem_map.1 hx
  have := List.mem_range.1 hi
  omega
theorem whereT_pw (n : Nat) : (whereL n fun _ => true).Pairwise (· < ·) := by
  rw [whereT, List.pairwise_map]
  exact List.pairwise_lt_range.imp fun h => by omega
open Go.RowKit
set_option maxRecDepth 100000
set_option linter.unusedVariables false
theorem trueC_any (i : Int) (w : World) : Calls Tryz.prog 93 #[.int .i64 i] w fun e w' => e = .returned (.bool true) ∧ Below w.heap.size w w' := by
  go_enter Tryz.func93, Tryz.ntmps93
  go_wp2_with fail
  go_ret
  exact ⟨rfl, Below.refl _ _⟩
set_option maxHeartbeats 2000000 in
theorem orderBy_any (key : Int → Int) (n ge gc : Nat) (w : World) (hn : n ≤ 19) (hc : NumOk key n ge gc w.heap.size w) : Calls Tryz.prog 88 #[.int .i64 n, .func (.func 89) #[] #[.pointer (some ⟨ge, 0, none⟩), .pointer (some ⟨gc, 0, none⟩)]] w fun e w' => ∃ (L : List Int) (a' : Option Addr) (c' : Nat), e = .returned (.slice a' n c') ∧ SrtOf key (whereL n fun _ => true) L ∧ Ow eI 1 w' w.heap.size 2 (.slice a' n c') n L ∧ Below w.heap.size w w' := by
  have HC := Lib.hid hc
  have hx1 := CAt.new w #[.func (.func 89) #[] #[.pointer (some ⟨ge, 0, none⟩), .pointer (some ⟨gc, 0, none⟩)]] 55
  have hb1 := (Below.refl w.heap.size w).alloc (Nat.le_refl _) (.cells #[.func (.func 89) #[] #[.pointer (some ⟨ge, 0, none⟩), .pointer (some ⟨gc, 0, none⟩)]] 55)
  obtain ⟨w1, hw1⟩ : ∃ wx, w.alloc (.cells #[.func (.func 89) #[] #[.pointer (some ⟨ge, 0, none⟩), .pointer (some ⟨gc, 0, none⟩)]] 55) = wx := ⟨_, rfl⟩
  obtain ⟨gb, hgb⟩ : ∃ gx, w.heap.size = gx := ⟨_, rfl⟩
  rw [hw1] at hx1 hb1
  have hx1' : CAt w1 gb #[.func (.func 89) #[] #[.pointer (some ⟨ge, 0, none⟩), .pointer (some ⟨gc, 0, none⟩)]] 55 := by rw [← hgb]; exact hx1
  have HX1 := Lib.hid hx1'
  have HB1 := Lib.hid hb1
  have HW1 := Lib.hid hw1
  have HG := Lib.hid hgb
  clear hc hx1 hx1' hb1 hw1 hgb
  go_enter Tryz.func88, Tryz.ntmps88
  go_upto_region 1 with (fail)
  rw [HW1.out]
  rw [HG.out]
  clear HW1
  go_wp2_with fail
  refine (indicesWhere_any n (fun _ => true) _ _ _ (by omega) ?c1 ?c2).mono ?_
  case c1 => intro args wx; kernel_rfl
  case c2 => intro i w' hi hb'; exact trueC_any i w'
  rintro e w2 ⟨a2, n2, c2, rfl, hn2, ho2, hb2⟩
  have hl2 := ho2.len eI_len (by decide)
  rw [whereT_len] at hl2
  subst hl2
  have HO2 := Lib.hid ho2
  have HB2 := Lib.hid hb2
  have HCM := Lib.hid (ordCmp_any key _ n gb ge gc w1.heap.size w2 (whereT_mem n) HB2.out.size HX1.out.lt (fun i w' hi hb => HC.out i w' hi ((HB1.out.trans (HB2.out.mono HB1.out.size)).trans (hb.mono HB1.out.size))) (HX1.out.below HB2.out))
  clear ho2 hb2 hn2
  go_wp2_with fail
  refine (SortStable_any key _ a2 n c2 w1.heap.size gb w2 HB2.out.size hn (whereT_pw n) HO2.out HCM.out).mono ?_
  rintro e w3 ⟨rfl, L, hs, ho3, hb3⟩
  have HS := Lib.hid hs
  have HO3 := Lib.hid ho3
  have HB3 := Lib.hid hb3
  clear hs ho3 hb3
  go_wp2_with fail
  go_ret
  exact ⟨L, a2, c2, rfl, HS.out, HO3.out.mono (by rw [HG.out.symm] at *; exact HB1.out.size), (HB1.out.trans (HB2.out.mono HB1.out.size)).trans (HB3.out.mono HB1.out.size)⟩
def tAt (ps : List Pt) (i : Int) : Int := (ps[i.toNat]?.getD ⟨0, 0⟩).time
/-- the phase of a point -/
def foK (v : Eph) (ps : List Pt) (i : Int) : Int := phs v (tAt ps i)
set_option maxHeartbeats 1000000 in
theorem foldNum_any (v : Eph) (ps : List Pt) (a : Option Addr) (n c ge gc i : Nat) (w : World) (hv : EphOk v) (ht : ∀ x ∈ ps, 0 ≤ x.time ∧ x.time ≤ 10000000) (hn : n ≤ 1000) (hi : i < n) (hl : ps.length = n) (hr : Rd Pt.enc 2 w a ps) (hxe : CAt w ge #[.int .i64 v.epoch, .int .i64 v.per] 93) (hxc : CAt w gc #[.slice a n c] 24) : Calls Tryz.prog 89 #[.int .i64 i, .pointer (some ⟨ge, 0, none⟩), .pointer (some ⟨gc, 0, none⟩)] w fun e w' => e = .returned (.int .i64 (foK v ps i)) ∧ Below w.heap.size w w' := by
  have HL := Lib.hid hl
  have HR := Lib.hid hr
  have HV := Lib.hid hv
  have HT := Lib.hid ht
  have HXe := Lib.hid hxe
  have HXc := Lib.hid hxc
  clear hl hr hv ht hxe hxc
  go_enter Tryz.func89, Tryz.ntmps89
  have c1 : w.cell? ⟨ge, 0, none⟩ = some (.int .i64 v.epoch) := HXe.out.cell 0
  have c2 : w.cell? ⟨ge, 1, none⟩ = some (.int .i64 v.per) := HXe.out.cell 1
  have c3 : w.cell? ⟨gc, 0, none⟩ = some (.slice a n c) := HXc.out.cell 0
  obtain ⟨x4, hx⟩ : ∃ z, (ps)[i]? = some z := ⟨_, List.getElem?_eq_getElem (by rw [HL.out]; omega)⟩
  have HXx4 := Lib.hid hx
  clear hx
  have hx0 := HT.out x4 (List.mem_of_getElem? HXx4.out)
  have hx1 := hx0.1
  have hx2 := hx0.2
  clear hx0
  have HKY : Hid (foK v ps i = (x4.time - v.epoch) % v.per) := Lib.hid (by have h1 := HXx4.out; simp [foK, tAt, phs, h1])
  obtain ⟨b5, o6, hab, HC7⟩ := HR.out.addr (by rw [HL.out]; omega)
  have HC7_ := Lib.hid HC7
  clear HC7
  have HC7 := HC7_
  clear HC7_
  subst hab
  have c8 : w.cell? ⟨b5, o6 + i * 2, none⟩ = some (.int .i64 x4.time) := HC7.out i x4 HXx4.out w (Below.refl w.heap.size w) 0 _ rfl
  have j9 : (0 : Int) ≤ (i : Nat) := by omega
  have j10 : ((i : Nat) : Int) < n := by omega
  go_upto_region 1 with (fail)
  have n11 := cls_cell (w0 := w) (B := w.heap.size) (lt_of_cell c1) c1
  have n12 := cls_cell (w0 := w) (B := w.heap.size) (lt_of_cell c2) c2
  have n13 := cls_cell (w0 := w) (B := w.heap.size) (lt_of_cell c3) c3
  have n14 := cls_cell (w0 := w) (B := w.heap.size) (lt_of_cell c8) c8
  clear c1 c2 c3 c8
  go_wp2_with fail
  refine wp_region_cls w (B := w.heap.size) (by kernel_rfl) (by kernel_rfl) (Below.refl _ _) ?_
  repeat (go_big_quiet_step ((first | (go_at_call 90; exact cls_call (Nat.le_refl _) (ephPhase v x4.time _ HV.out (by omega) (by omega))) )))
  refine wpQuiet_nil ?_
  intro _ hw'
  obtain ⟨uq, hw''⟩ := hw'
  subst hw''
  have hbq := uq.ok
  generalize uq.w = wv15 at hbq
  clear j9 j10 n11 n12 n13 n14
  have HB16 : Hid (Below w.heap.size w wv15) := Lib.hid hbq
  have HX17 := Lib.hid (HXe.out.below hbq)
  have HX18 := Lib.hid (HXc.out.below hbq)
  clear hbq
  go_wp2_with fail
  go_ret
  exact ⟨by rw [HKY.out]; rfl, HB16.out⟩
set_option maxHeartbeats 1000000 in
theorem foldOrder_any (v : Eph) (ps : List Pt) (a : Option Addr) (n c : Nat) (w : World) (hv : EphOk v) (ht : ∀ x ∈ ps, 0 ≤ x.time ∧ x.time ≤ 10000000) (hn : n ≤ 19) (hl : ps.length = n) (hr : Rd Pt.enc 2 w a ps) : Calls Tryz.prog 85 #[.agg #[.int .i64 v.epoch, .int .i64 v.per], .slice a n c] w fun e w' => ∃ (L : List Int) (a' : Option Addr) (c' : Nat), e = .returned (.slice a' n c') ∧ SrtOf (foK v ps) (whereL n fun _ => true) L ∧ Rd eI 1 w' a' L ∧ Below w.heap.size w w' := by
  have HL := Lib.hid hl
  have HR := Lib.hid hr
  have HV := Lib.hid hv
  have HT := Lib.hid ht
  clear hl hr hv ht
  go_enter Tryz.func85, Tryz.ntmps85
  have HX1 := CAt.new w #[.int .i64 v.epoch, .int .i64 v.per] 93
  have hb2 := (Below.refl w.heap.size w).alloc (Nat.le_refl _) (.cells #[.int .i64 v.epoch, .int .i64 v.per] 93)
  obtain ⟨wv4, HW5⟩ : ∃ wx, w.alloc (.cells #[.int .i64 v.epoch, .int .i64 v.per] 93) = wx := ⟨_, rfl⟩
  obtain ⟨g3, HG6⟩ : ∃ gx, w.heap.size = gx := ⟨_, rfl⟩
  rw [HW5] at HX1 hb2
  rw [HG6] at HX1
  have hge7 : w.heap.size ≤ g3 := by rw [← HG6]; exact Nat.le_refl _
  have HX1_ := Lib.hid HX1
  clear HX1
  have HX1 := HX1_
  clear HX1_
  have HW5_ := Lib.hid HW5
  clear HW5
  have HW5 := HW5_
  clear HW5_
  have HG6_ := Lib.hid HG6
  clear HG6
  have HG6 := HG6_
  clear HG6_
  have HB8 : Hid (Below w.heap.size w wv4) := Lib.hid hb2
  clear hb2
  have HX9 := CAt.new wv4 #[.slice a n c] 24
  have hb10 := (Below.refl wv4.heap.size wv4).alloc (Nat.le_refl _) (.cells #[.slice a n c] 24)
  obtain ⟨wv12, HW13⟩ : ∃ wx, wv4.alloc (.cells #[.slice a n c] 24) = wx := ⟨_, rfl⟩
  obtain ⟨g11, HG14⟩ : ∃ gx, wv4.heap.size = gx := ⟨_, rfl⟩
  rw [HW13] at HX9 hb10
  rw [HG14] at HX9
  have hge15 : w.heap.size ≤ g11 := by rw [← HG14]; exact HB8.out.size
  have hlt16 : g3 < g11 := by rw [← HG14]; exact HX1.out.lt
  have HX9_ := Lib.hid HX9
  clear HX9
  have HX9 := HX9_
  clear HX9_
  have HW13_ := Lib.hid HW13
  clear HW13
  have HW13 := HW13_
  clear HW13_
  have HG14_ := Lib.hid HG14
  clear HG14
  have HG14 := HG14_
  clear HG14_
  have HA17 : Hid (g3 + 1 = g11) := Lib.hid (by have h1 : wv4.heap.size = w.heap.size + 1 := by { rw [← HW5.out]; exact (bx1 _ _ _).2.2 }; have h2 := HG6.out; have h3 := HG14.out; omega)
  have HB18 : Hid (Below w.heap.size w wv12) := Lib.hid (HB8.out.trans (hb10.mono HB8.out.size))
  have HX19 := Lib.hid (HX1.out.below hb10)
  clear hb10
  go_upto_region 1 with (fail)
  rw [HW5.out]
  rw [HG6.out]
  rw [HW13.out]
  first | rw [HG14.out] | rw [HA17.out]
  have c20 : wv12.cell? ⟨g11, 0, none⟩ = some (.slice a n c) := HX9.out.cell 0
  go_wp2_with fail
  refine (orderBy_any (foK v ps) n g3 g11 _ (by omega) (fun i w' hi hb' => foldNum_any v ps a n c g3 g11 i w' HV.out HT.out (by omega) hi HL.out ((HR.out.below HB18.out).below hb') (HX19.out.below hb') (HX9.out.below hb'))).mono ?_
  rintro e wv22 ⟨Lq21, aq21, cq21, rfl, hsq21, hoq21, hb23⟩
  clear c20
  have HB24 : Hid (Below w.heap.size w wv22) := Lib.hid (HB18.out.trans (hb23.mono HB18.out.size))
  have HX25 := Lib.hid (HX19.out.below hb23)
  have HX26 := Lib.hid (HX9.out.below hb23)
  clear hb23
  have HRq21 := Lib.hid (hoq21.rd eI_len (by decide))
  have HSq21 := Lib.hid hsq21
  clear hoq21 hsq21
  go_wp2_with fail
  go_ret
  exact ⟨_, _, _, rfl, HSq21.out, HRq21.out, HB24.out⟩
open Go.RowKit
set_option maxRecDepth 100000
set_option linter.unusedVariables false
theorem sorted_one {key : Int → Int} : ∀ {L L' : List Int}, L.Perm L' → L.Pairwise (slt key) → L'.Pairwise (slt key) → L = L'
  | [], L', hp, _, _ => (List.Perm.nil_eq hp)
  | x :: r, [], hp, _, _ => absurd hp.length_eq (by simp)
  | x :: r, y :: r', hp, h, h' => by
    have hxy : x = y := by
      have h1 : x ∈ y :: r' := hp.mem_iff.1 (by simp)
      have h2 : y ∈ x :: r := hp.mem_iff.2 (by simp)
      rcases List.mem_cons.1 h1 with h1 | h1
      · exact h1
      · rcases List.mem_cons.1 h2 with h2 | h2
        · exact h2.symm
        · have h3 := (List.pairwise_cons.1 h).1 y h2
          have h4 := (List.pairwise_cons.1 h').1 x h1
          unfold slt at h3 h4
          omega
    subst hxy
    rw [sorted_one (List.Perm.cons_inv hp) (List.pairwise_cons.1 h).2 (List.pairwise_cons.1 h').2]
theorem SrtOf.one {key : Int → Int} {X L L' : List Int} (h : SrtOf key X L) (h' : SrtOf key X L') : L = L' := sorted_one (h.1.trans h'.1.symm) h.2 h'.2
theorem whereT_succ (k : Nat) : (whereL (k + 1) fun _ => true) = (whereL k fun _ => true) ++ [(k : Int)] := (whereL_yes rfl).symm
theorem SrtOf.mem {key : Int → Int} {n : Nat} {L : List Int} (h : SrtOf key (whereL n fun _ => true) L) {x : Int} (hx : x ∈ L) : 0 ≤ x ∧ x < (n : Int) := whereT_mem n x (h.1.mem_iff.1 hx)
theorem SrtOf.len {key : Int → Int} {n : Nat} {L : List Int} (h : SrtOf key (whereL n fun _ => true) L) : L.length = n := by rw [h.1.length_eq, whereT_len]
theorem SrtOf.ins {key : Int → Int} {k m : Nat} {L : List Int} (h : SrtOf key (whereL k fun _ => true) L) (hm : m ≤ k) (h1 : ∀ (q : Nat) (x : Int), m ≤ q → L[q]? = some x → key k < key x) (h2 : m = 0 ∨ ∃ x, L[m - 1]? = some x ∧ ¬ key k < key x) : SrtOf key (whereL (k + 1) fun _ => true) (L.take m ++ [(k : Int)] ++ L.drop m) := by
  have hl := h.len
  have hpw := h.2
  rw [← List.take_append_drop m L, List.pairwise_append] at hpw
  have hT : ∀ p ∈ L.take m, slt key p (k : Int) := fun p hp => by
    obtain ⟨i, hi, rfl⟩ := List.getElem_of_mem hp
    rw [List.length_take] at hi
    rw [List.getElem_take]
    rcases h2 with h0 | ⟨x, hx, hle⟩
    · omega
    · have hxl : m - 1 < L.length := (List.getElem?_eq_some_iff.1 hx).1
      have hxe := (List.getElem?_eq_some_iff.1 hx).2
      have hxk : x < (k : Int) := (h.mem (List.mem_of_getElem? hx)).2
      have hxs : slt key x k := by unfold slt; omega
      by_cases he : i = m - 1
      · subst he; rw [hxe]; exact hxs
      · have h3 := (List.pairwise_iff_getElem.1 h.2) i (m - 1) (by omega) hxl (by omega)
        rw [hxe] at h3
        exact slt_trans h3 hxs
  refine ⟨?_, ?_⟩
  · rw [whereT_succ]
    have e : (L.take m ++ [(k : Int)] ++ L.drop m).Perm (L ++ [(k : Int)]) := by
      rw [List.append_assoc]
      have e2 : ([(k : Int)] ++ L.drop m).Perm (L.drop m ++ [(k : Int)]) := List.perm_append_comm
      refine ((List.perm_append_left_iff _).2 e2).trans ?_
      rw [← List.append_assoc, List.take_append_drop]
    exact e.trans (h.1.append_right _)
  · rw [List.pairwise_append, List.pairwise_append]
    refine ⟨⟨hpw.1, by simp, ?_⟩, hpw.2.1, ?_⟩
    · intro p hp q hq
      have : q = (k : Int) := by simpa using hq
      rw [this]; exact hT p hp
    · intro p hp q hq
      obtain ⟨j, hj, rfl⟩ := List.getElem_of_mem hq
      rw [List.length_drop] at hj
      rw [List.getElem_drop]
      rcases List.mem_append.1 hp with hp | hp
      · exact hpw.2.2 p hp _ (by rw [← List.getElem_drop (h := by omega)]; exact List.getElem_mem _)
      · have : p = (k : Int) := by simpa using hp
        rw [this]
        exact .inl (h1 (m + j) _ (by omega) (List.getElem?_eq_getElem (by omega)))
open Go.RowKit
set_option maxRecDepth 100000
set_option linter.unusedVariables false
set_option maxHeartbeats 4000000 in
theorem l09Fold_any (v : Eph) (ps : List Pt) (a : Option Addr) (n c : Nat) (w : World) (hv : EphOk v) (ht : ∀ x ∈ ps, 0 ≤ x.time ∧ x.time ≤ 10000000) (hn : n ≤ 1000) (hl : ps.length = n) (hr : Rd Pt.enc 2 w a ps) : Calls Tryz.prog 83 #[.agg #[.int .i64 v.epoch, .int .i64 v.per], .slice a n c] w fun e w' => ∃ (L : List Int) (a' : Option Addr) (c' : Nat), e = .returned (.slice a' n c') ∧ SrtOf (foK v ps) (whereL n fun _ => true) L ∧ Rd eI 1 w' a' L ∧ Below w.heap.size w w' := by
  have HL := Lib.hid hl
  have HR := Lib.hid hr
  have HV := Lib.hid hv
  have HT := Lib.hid ht
  clear hl hr hv ht
  go_enter Tryz.func83, Tryz.ntmps83
  have HX1 := CAt.new w #[.int .i64 v.epoch, .int .i64 v.per] 93
  have hb2 := (Below.refl w.heap.size w).alloc (Nat.le_refl _) (.cells #[.int .i64 v.epoch, .int .i64 v.per] 93)
  obtain ⟨wv4, HW5⟩ : ∃ wx, w.alloc (.cells #[.int .i64 v.epoch, .int .i64 v.per] 93) = wx := ⟨_, rfl⟩
  obtain ⟨g3, HG6⟩ : ∃ gx, w.heap.size = gx := ⟨_, rfl⟩
  rw [HW5] at HX1 hb2
  rw [HG6] at HX1
  have hge7 : w.heap.size ≤ g3 := by rw [← HG6]; exact Nat.le_refl _
  have HX1_ := Lib.hid HX1
  clear HX1
  have HX1 := HX1_
  clear HX1_
  have HW5_ := Lib.hid HW5
  clear HW5
  have HW5 := HW5_
  clear HW5_
  have HG6_ := Lib.hid HG6
  clear HG6
  have HG6 := HG6_
  clear HG6_
  have HB8 : Hid (Below w.heap.size w wv4) := Lib.hid hb2
  clear hb2
  go_upto_region 1 with (fail)
  rw [HW5.out]
  rw [HG6.out]
  have hbx13 : g3 < wv4.heap.size := HX1.out.lt
  have HO9 := Ow.built eI 1 wv4 2
  have hb12 := below_built wv4 2
  obtain ⟨wv10, HW11⟩ : ∃ wx, (wv4.alloc (.cells #[] 2)) = wx := ⟨_, rfl⟩
  rw [HW11] at HO9 hb12
  have HO9_ := Lib.hid HO9
  clear HO9
  have HO9 := HO9_
  clear HO9_
  have HW11_ := Lib.hid HW11
  clear HW11
  have HW11 := HW11_
  clear HW11_
  have hsz14 : wv4.heap.size ≤ wv10.heap.size := hb12.size
  have HB15 : Hid (Below w.heap.size w wv10) := Lib.hid (HB8.out.trans (hb12.mono HB8.out.size))
  have HX16 := Lib.hid (HX1.out.below hb12)
  clear hb12
  go_upto_region 2 with (fail)
  rw [HW11.out]
  clear HW11
  go_wp2_with fail
  go_loopw [5, 6] (fun vo i wr => ∃ (k : Nat) (gO : Nat) (cO : Nat) (L : List Int), k ≤ n ∧ i = .int .i64 k ∧ vo = .slice (some ⟨gO, 0, none⟩) k cO ∧ Hid (SrtOf (foK v ps) (whereL k fun _ => true) L) ∧ Hid (Ow eI 1 wr w.heap.size 2 (.slice (some ⟨gO, 0, none⟩) k cO) k L) ∧ w.heap.size ≤ wr.heap.size ∧ Hid (CAt wr g3 #[.int .i64 v.epoch, .int .i64 v.per] 93) ∧ Hid (Below w.heap.size w wr)) (fun _ i _ => n - (intOf i).toNat)
  case atStart => exact ⟨0, _, _, [], Nat.zero_le _, rfl, rfl, Lib.hid ⟨List.Perm.refl _, List.Pairwise.nil⟩, Lib.hid (HO9.out.mono HB8.out.size), Nat.le_trans HB8.out.size hsz14, HX16, HB15⟩
  case round =>
    obtain ⟨k, gO, cO, L, hk, rfl, rfl, HSO, HOk, hszk, HXk17, HBk⟩ := hrel
    obtain ⟨wr18, hwr⟩ : ∃ wx, wx = wr := ⟨_, rfl⟩
    subst hwr
    have HB19 := HBk
    clear HBk
    by_cases hlt : k < n
    · go_wp2_with fail
      go_loopw [7] (fun kv wr => ∃ (m : Nat), m ≤ k ∧ kv = .int .i64 m ∧ Hid (∀ (q : Nat) (x : Int), m ≤ q → L[q]? = some x → foK v ps k < foK v ps x) ∧ Hid (Ow eI 1 wr w.heap.size 2 (.slice (some ⟨gO, 0, none⟩) k cO) k L) ∧ w.heap.size ≤ wr.heap.size ∧ Hid (CAt wr g3 #[.int .i64 v.epoch, .int .i64 v.per] 93) ∧ Hid (Below w.heap.size w wr)) (fun kv _ => (intOf kv).toNat)
      case atStart => exact ⟨k, Nat.le_refl _, rfl, Lib.hid (fun q x hq hx => by have h1 := (List.getElem?_eq_some_iff.1 hx).1; have h2 := HSO.out.len; omega), HOk, hszk, HXk17, HB19⟩
      case round =>
        obtain ⟨m, hm, rfl, HMX, HOi, hszi, HXk20, HBk⟩ := hrel
        obtain ⟨wr21, hwr⟩ : ∃ wx, wx = wr := ⟨_, rfl⟩
        subst hwr
        have HB22 := HBk
        clear HBk
        by_cases hc23 : 0 < (m : Int)
        · have d24 : decide (0 < (m : Int)) = true := decide_eq_true hc23
          have d24n : decide (0 < m) = true := decide_eq_true (by omega)
          have c25 : wr21.cell? ⟨g3, 0, none⟩ = some (.int .i64 v.epoch) := HXk20.out.cell 0
          have c26 : wr21.cell? ⟨g3, 1, none⟩ = some (.int .i64 v.per) := HXk20.out.cell 1
          have i27 : IntKind.i64.wrap ((m : Int) - 1) = (m : Int) - 1 := IntWalk.i64_in _ (by omega)
          obtain ⟨x28, hx⟩ : ∃ z, (L)[m - 1]? = some z := ⟨_, List.getElem?_eq_getElem (by rw [HOi.out.len eI_len (by decide)]; omega)⟩
          have HXx28 := Lib.hid hx
          clear hx
          have c29 : wr21.cell? ⟨gO, m - 1, none⟩ = some (.int .i64 x28) := HOi.out.cell1 eI_len (by omega) HXx28.out rfl
          have j30 : (0 : Int) ≤ (m : Int) - 1 := by omega
          have j31 : (m : Int) - 1 < (k : Int) := by omega
          have j32 : ((m : Int) - 1).toNat = m - 1 := by omega
          have j33 : (1 : Int) ≤ (m : Int) := by omega
          have j34 : 1 ≤ m := by omega
          have hox := HSO.out.mem (List.mem_of_getElem? HXx28.out)
          have hox1 := hox.1
          have hox2 := hox.2
          clear hox
          obtain ⟨x35, hx⟩ : ∃ z, (ps)[(x28).toNat]? = some z := ⟨_, List.getElem?_eq_getElem (by rw [HL.out]; omega)⟩
          have HXx35 := Lib.hid hx
          clear hx
          have hx0 := HT.out x35 (List.mem_of_getElem? HXx35.out)
          have hx1K36 := hx0.1
          have hx2K36 := hx0.2
          clear hx0
          have HK36 : Hid (foK v ps x28 = (x35.time - v.epoch) % v.per) := Lib.hid (by have h1 := HXx35.out; simp only [foK, tAt, phs]; rw [show (x28).toNat = (x28).toNat by omega, h1]; rfl)
          obtain ⟨b37, o38, hab, HC39⟩ := HR.out.addr (by rw [HL.out]; omega)
          have HC39_ := Lib.hid HC39
          clear HC39
          have HC39 := HC39_
          clear HC39_
          subst hab
          have c40 : wr21.cell? ⟨b37, o38 + ((x28).toNat) * 2, none⟩ = some (.int .i64 x35.time) := HC39.out ((x28).toNat) x35 HXx35.out wr21 HB22.out 0 _ rfl
          have j41 : (0 : Int) ≤ x28 := by omega
          have j42 : x28 < (n : Int) := by omega
          have j43 : (x28).toNat = (x28).toNat := by omega
          obtain ⟨x44, hx⟩ : ∃ z, (ps)[k]? = some z := ⟨_, List.getElem?_eq_getElem (by rw [HL.out]; omega)⟩
          have HXx44 := Lib.hid hx
          clear hx
          have hx0 := HT.out x44 (List.mem_of_getElem? HXx44.out)
          have hx1K45 := hx0.1
          have hx2K45 := hx0.2
          clear hx0
          have HK45 : Hid (foK v ps (k : Int) = (x44.time - v.epoch) % v.per) := Lib.hid (by have h1 := HXx44.out; simp only [foK, tAt, phs]; rw [show ((k : Int)).toNat = k by omega, h1]; rfl)
          have c46 : wr21.cell? ⟨b37, o38 + k * 2, none⟩ = some (.int .i64 x44.time) := HC39.out k x44 HXx44.out wr21 HB22.out 0 _ rfl
          have j47 : (0 : Int) ≤ (k : Nat) := by omega
          have j48 : ((k : Nat) : Int) < n := by omega
          go_upto_region 6 with (fail)
          have n49 := cls_cell (w0 := wr21) (B := wr21.heap.size) (lt_of_cell c25) c25
          have n50 := cls_cell (w0 := wr21) (B := wr21.heap.size) (lt_of_cell c26) c26
          have n51 := cls_cell (w0 := wr21) (B := wr21.heap.size) (lt_of_cell c29) c29
          have n52 := cls_cell (w0 := wr21) (B := wr21.heap.size) (lt_of_cell c40) c40
          have n53 := cls_cell (w0 := wr21) (B := wr21.heap.size) (lt_of_cell c46) c46
          clear c25 c26 c29 c40 c46
          go_wp2_with fail
          refine wp_region_cls wr21 (B := wr21.heap.size) (by kernel_rfl) (by kernel_rfl) (Below.refl _ _) ?_
          repeat (go_big_quiet_step ((first | (go_at_call 86; (with_reducible exact cls_call (Nat.le_refl _) (l09Phase_any v x35.time HV.out (by omega) (by omega) _))) | (go_at_call 86; (with_reducible exact cls_call (Nat.le_refl _) (l09Phase_any v x44.time HV.out (by omega) (by omega) _))) )))
          refine wpQuiet_nil ?_
          intro _ hw'
          obtain ⟨uq, hw''⟩ := hw'
          subst hw''
          have hbq := uq.ok
          generalize uq.w = wv54 at hbq
          clear i27 j30 j31 j32 j33 j34 j41 j42 j43 j47 j48 n49 n50 n51 n52 n53
          have HB55 : Hid (Below w.heap.size w wv54) := Lib.hid (HB22.out.trans (hbq.mono HB22.out.size))
          have HX56 := Lib.hid (HXk20.out.below hbq)
          have HO57 := Lib.hid (HOi.out.below hbq)
          have hsz58 : w.heap.size ≤ wv54.heap.size := Nat.le_trans hszi (hbq).size
          clear hbq
          by_cases hc59 : ((x44.time) - v.epoch) % v.per < ((x35.time) - v.epoch) % v.per
          · have d60 : decide (((x44.time) - v.epoch) % v.per < ((x35.time) - v.epoch) % v.per) = true := decide_eq_true hc59
            have i61 : IntKind.i64.wrap ((m : Int) - 1) = (m : Int) - 1 := IntWalk.i64_in _ (by omega)
            go_wp2_with fail
            have HMY : Hid (∀ (q : Nat) (x : Int), m - 1 ≤ q → L[q]? = some x → foK v ps k < foK v ps x) := Lib.hid fun q x hq hx => (Nat.lt_or_ge q m).elim (fun h1 => by rw [show q = m - 1 by omega, HXx28.out] at hx; cases hx; rw [HK36.out, HK45.out]; omega) (fun h1 => HMX.out q x h1 hx)
            go_roundw
            case rel => exact ⟨m - 1, by omega, by go_num, HMY, HO57, hsz58, HX56, HB55⟩
            case measure => simp [intOf]; omega
          · have d62 : decide (((x44.time) - v.epoch) % v.per < ((x35.time) - v.epoch) % v.per) = false := decide_eq_false hc59
            have HIN : Hid (m = 0 ∨ ∃ x, L[m - 1]? = some x ∧ ¬ foK v ps k < foK v ps x) := Lib.hid (.inr ⟨x28, HXx28.out, by rw [HK36.out, HK45.out]; omega⟩)
            have HSN := Lib.hid (HSO.out.ins hm HMX.out HIN.out)
            have hLk : L.length = k := HSO.out.len
            have hmc : k ≤ cO := HO57.out.cap
            have j0 : (0 : Int) ≤ (m : Nat) := by omega
            have j1 : ((m : Nat) : Int) ≤ (cO : Nat) := by omega
            have j2 : m ≤ cO := by omega
            have j3 : ((m : Nat) : Int) ≤ (k : Nat) := by omega
            have HRD := Lib.hid (HO57.out.rd eI_len (by decide))
            have hlt : (L.take m).length = m := by rw [List.length_take]; omega
            have hld : (L.drop m).length = k - m := by rw [List.length_drop]; omega
            go_wp2_with fail
            refine (l00Own_any (L.take m) (some ⟨gO, 0, none⟩) m cO _ (by omega) hlt (HRD.out.takeI m)).mono ?_
            rintro e w8 ⟨a8, c8, rfl, ho8, hb8⟩
            have HO8 := Lib.hid ho8
            have HA8 := Lib.hid hb8
            clear ho8 hb8
            have h63 : m + 1 ≤ maxLen := by unfold maxLen; omega
            have hby : (m + 1) * 8 ≤ 140737488355328 := by omega
            obtain ⟨y9, hy9⟩ : ∃ ys, L.take m ++ [(k : Int)] = ys := ⟨_, rfl⟩
            have HY9 := Lib.hid hy9
            clear hy9
            have hsz8 : wv54.heap.size ≤ w8.heap.size := HA8.out.size
            go_wp2_with (at_builtin; refine wpl_app eI_len (by decide) _ rfl (.tmp 46) (.tmp 48) 39 rfl 2 _ 8 rfl Tryz.underlying39 infoI64 wv54.heap.size _ m _ rfl w8 _ _ rfl HO8.out (k : Int) rfl rfl (eI_one _) h63 hby hsz8 y9 HY9 ?_)
            intro a9 c9 w9 ho9 hb9 hs9
            have HO9 := Lib.hid ho9
            have HA9 := Lib.hid (HA8.out.trans hb9)
            clear ho9 hb9 hs9
            have HRD9 := Lib.hid ((HRD.out.below HA9.out).dropI m)
            have h64 : m + 1 + (k - m) ≤ maxLen := by unfold maxLen; omega
            have hbz : (m + 1 + (k - m)) * 8 ≤ 140737488355328 := by omega
            have hsz9 : wv54.heap.size ≤ w9.heap.size := HA9.out.size
            obtain ⟨y10, hy10⟩ : ∃ ys, y9 ++ L.drop m = ys := ⟨_, rfl⟩
            have HY10 := Lib.hid hy10
            clear hy10
            by_cases hcm : cO = m
            · have hdz : L.drop m = [] := List.eq_nil_of_length_eq_zero (by omega)
              have HRX : Hid (Rd eI 1 w9 (some ⟨gO, 0, none⟩) (L.drop m)) := Lib.hid (by rw [hdz]; intro i x hx; simp at hx)
              clear hdz
              go_wp2_with (at_builtin; refine wpl_apps eI_len (by decide) eI_one _ rfl (.tmp 50) (.tmp 53) 39 rfl 2 _ 8 rfl Tryz.underlying39 infoI64 wv54.heap.size _ (m + 1) _ rfl HO9.out (L.drop m) (k - m) hld _ _ rfl HRX.out h64 hbz hsz9 y10 HY10 ?_)
              intro a10 c10 w10 ho10 hb10
              rw [show m + 1 + (k - m) = k + 1 by omega] at ho10 ⊢
              obtain ⟨g10, rfl, _, _⟩ := ho10.at_ (by omega)
              have HO10 := Lib.hid (ho10.mono HB55.out.size)
              have HAN := Lib.hid (HA9.out.trans hb10)
              clear ho10 hb10
              have HXN := Lib.hid (HX56.out.below HAN.out)
              have HBN : Hid (Below w.heap.size w w10) := Lib.hid (HB55.out.trans (HAN.out.mono HB55.out.size))
              have hszN : w.heap.size ≤ w10.heap.size := HBN.out.size
              have HSX : Hid (SrtOf (foK v ps) (whereL (k + 1) fun _ => true) y10) := Lib.hid (by rw [← HY10.out, ← HY9.out]; exact HSN.out)
              have i63 : IntKind.i64.wrap ((k : Int) + 1) = (k : Int) + 1 := IntWalk.i64_in _ (by omega)
              go_wp2_with fail
              go_roundw
              case rel => exact ⟨k + 1, _, _, _, by omega, by go_num, rfl, HSX, HO10, hszN, HXN, HBN⟩
              case measure => simp [intOf]; omega
            · have HRX : Hid (Rd eI 1 w9 (some ⟨gO, m, none⟩) (L.drop m)) := Lib.hid (by have := HRD9.out; rwa [Nat.zero_add] at this)
              have hcm2 : ¬ (cO : Int) = (m : Int) := by omega
              go_wp2_with (at_builtin; refine wpl_apps eI_len (by decide) eI_one _ rfl (.tmp 50) (.tmp 53) 39 rfl 2 _ 8 rfl Tryz.underlying39 infoI64 wv54.heap.size _ (m + 1) _ rfl HO9.out (L.drop m) (k - m) hld _ _ rfl HRX.out h64 hbz hsz9 y10 HY10 ?_)
              intro a10 c10 w10 ho10 hb10
              rw [show m + 1 + (k - m) = k + 1 by omega] at ho10 ⊢
              obtain ⟨g10, rfl, _, _⟩ := ho10.at_ (by omega)
              have HO10 := Lib.hid (ho10.mono HB55.out.size)
              have HAN := Lib.hid (HA9.out.trans hb10)
              clear ho10 hb10
              have HXN := Lib.hid (HX56.out.below HAN.out)
              have HBN : Hid (Below w.heap.size w w10) := Lib.hid (HB55.out.trans (HAN.out.mono HB55.out.size))
              have hszN : w.heap.size ≤ w10.heap.size := HBN.out.size
              have HSX : Hid (SrtOf (foK v ps) (whereL (k + 1) fun _ => true) y10) := Lib.hid (by rw [← HY10.out, ← HY9.out]; exact HSN.out)
              have i64 : IntKind.i64.wrap ((k : Int) + 1) = (k : Int) + 1 := IntWalk.i64_in _ (by omega)
              go_wp2_with fail
              go_roundw
              case rel => exact ⟨k + 1, _, _, _, by omega, by go_num, rfl, HSX, HO10, hszN, HXN, HBN⟩
              case measure => simp [intOf]; omega
        · have d65 : decide (0 < (m : Int)) = false := decide_eq_false hc23
          have d65n : decide (0 < m) = false := decide_eq_false (by omega)
          go_wp2_with fail
          go_quiet (fail)
          have hbq : Below wr21.heap.size wr21 (wr21.drewN nq) := below_drewN (Below.refl _ _) nq
          obtain ⟨wv66, hwq⟩ : ∃ wq, wr21.drewN nq = wq := ⟨_, rfl⟩
          rw [hwq] at hbq ⊢
          clear hwq
          have HB67 : Hid (Below w.heap.size w wv66) := Lib.hid (HB22.out.trans (hbq.mono HB22.out.size))
          have HX68 := Lib.hid (HXk20.out.below hbq)
          have HO69 := Lib.hid (HOi.out.below hbq)
          have hsz70 : w.heap.size ≤ wv66.heap.size := Nat.le_trans hszi (hbq).size
          clear hbq
          have HIN : Hid (m = 0 ∨ ∃ x, L[m - 1]? = some x ∧ ¬ foK v ps k < foK v ps x) := Lib.hid (.inl (by omega))
          have HSN := Lib.hid (HSO.out.ins hm HMX.out HIN.out)
          have hLk : L.length = k := HSO.out.len
          have hmc : k ≤ cO := HO69.out.cap
          have j0 : (0 : Int) ≤ (m : Nat) := by omega
          have j1 : ((m : Nat) : Int) ≤ (cO : Nat) := by omega
          have j2 : m ≤ cO := by omega
          have j3 : ((m : Nat) : Int) ≤ (k : Nat) := by omega
          have HRD := Lib.hid (HO69.out.rd eI_len (by decide))
          have hlt : (L.take m).length = m := by rw [List.length_take]; omega
          have hld : (L.drop m).length = k - m := by rw [List.length_drop]; omega
          go_wp2_with fail
          refine (l00Own_any (L.take m) (some ⟨gO, 0, none⟩) m cO _ (by omega) hlt (HRD.out.takeI m)).mono ?_
          rintro e w8 ⟨a8, c8, rfl, ho8, hb8⟩
          have HO8 := Lib.hid ho8
          have HA8 := Lib.hid hb8
          clear ho8 hb8
          have h63 : m + 1 ≤ maxLen := by unfold maxLen; omega
          have hby : (m + 1) * 8 ≤ 140737488355328 := by omega
          obtain ⟨y9, hy9⟩ : ∃ ys, L.take m ++ [(k : Int)] = ys := ⟨_, rfl⟩
          have HY9 := Lib.hid hy9
          clear hy9
          have hsz8 : wv66.heap.size ≤ w8.heap.size := HA8.out.size
          go_wp2_with (at_builtin; refine wpl_app eI_len (by decide) _ rfl (.tmp 46) (.tmp 48) 39 rfl 2 _ 8 rfl Tryz.underlying39 infoI64 wv66.heap.size _ m _ rfl w8 _ _ rfl HO8.out (k : Int) rfl rfl (eI_one _) h63 hby hsz8 y9 HY9 ?_)
          intro a9 c9 w9 ho9 hb9 hs9
          have HO9 := Lib.hid ho9
          have HA9 := Lib.hid (HA8.out.trans hb9)
          clear ho9 hb9 hs9
          have HRD9 := Lib.hid ((HRD.out.below HA9.out).dropI m)
          have h64 : m + 1 + (k - m) ≤ maxLen := by unfold maxLen; omega
          have hbz : (m + 1 + (k - m)) * 8 ≤ 140737488355328 := by omega
          have hsz9 : wv66.heap.size ≤ w9.heap.size := HA9.out.size
          obtain ⟨y10, hy10⟩ : ∃ ys, y9 ++ L.drop m = ys := ⟨_, rfl⟩
          have HY10 := Lib.hid hy10
          clear hy10
          by_cases hcm : cO = m
          · have hdz : L.drop m = [] := List.eq_nil_of_length_eq_zero (by omega)
            have HRX : Hid (Rd eI 1 w9 (some ⟨gO, 0, none⟩) (L.drop m)) := Lib.hid (by rw [hdz]; intro i x hx; simp at hx)
            clear hdz
            go_wp2_with (at_builtin; refine wpl_apps eI_len (by decide) eI_one _ rfl (.tmp 50) (.tmp 53) 39 rfl 2 _ 8 rfl Tryz.underlying39 infoI64 wv66.heap.size _ (m + 1) _ rfl HO9.out (L.drop m) (k - m) hld _ _ rfl HRX.out h64 hbz hsz9 y10 HY10 ?_)
            intro a10 c10 w10 ho10 hb10
            rw [show m + 1 + (k - m) = k + 1 by omega] at ho10 ⊢
            obtain ⟨g10, rfl, _, _⟩ := ho10.at_ (by omega)
            have HO10 := Lib.hid (ho10.mono HB67.out.size)
            have HAN := Lib.hid (HA9.out.trans hb10)
            clear ho10 hb10
            have HXN := Lib.hid (HX68.out.below HAN.out)
            have HBN : Hid (Below w.heap.size w w10) := Lib.hid (HB67.out.trans (HAN.out.mono HB67.out.size))
            have hszN : w.heap.size ≤ w10.heap.size := HBN.out.size
            have HSX : Hid (SrtOf (foK v ps) (whereL (k + 1) fun _ => true) y10) := Lib.hid (by rw [← HY10.out, ← HY9.out]; exact HSN.out)
            have i71 : IntKind.i64.wrap ((k : Int) + 1) = (k : Int) + 1 := IntWalk.i64_in _ (by omega)
            go_wp2_with fail
            go_roundw
            case rel => exact ⟨k + 1, _, _, _, by omega, by go_num, rfl, HSX, HO10, hszN, HXN, HBN⟩
            case measure => simp [intOf]; omega
          · have HRX : Hid (Rd eI 1 w9 (some ⟨gO, m, none⟩) (L.drop m)) := Lib.hid (by have := HRD9.out; rwa [Nat.zero_add] at this)
            have hcm2 : ¬ (cO : Int) = (m : Int) := by omega
            go_wp2_with (at_builtin; refine wpl_apps eI_len (by decide) eI_one _ rfl (.tmp 50) (.tmp 53) 39 rfl 2 _ 8 rfl Tryz.underlying39 infoI64 wv66.heap.size _ (m + 1) _ rfl HO9.out (L.drop m) (k - m) hld _ _ rfl HRX.out h64 hbz hsz9 y10 HY10 ?_)
            intro a10 c10 w10 ho10 hb10
            rw [show m + 1 + (k - m) = k + 1 by omega] at ho10 ⊢
            obtain ⟨g10, rfl, _, _⟩ := ho10.at_ (by omega)
            have HO10 := Lib.hid (ho10.mono HB67.out.size)
            have HAN := Lib.hid (HA9.out.trans hb10)
            clear ho10 hb10
            have HXN := Lib.hid (HX68.out.below HAN.out)
            have HBN : Hid (Below w.heap.size w w10) := Lib.hid (HB67.out.trans (HAN.out.mono HB67.out.size))
            have hszN : w.heap.size ≤ w10.heap.size := HBN.out.size
            have HSX : Hid (SrtOf (foK v ps) (whereL (k + 1) fun _ => true) y10) := Lib.hid (by rw [← HY10.out, ← HY9.out]; exact HSN.out)
            have i72 : IntKind.i64.wrap ((k : Int) + 1) = (k : Int) + 1 := IntWalk.i64_in _ (by omega)
            go_wp2_with fail
            go_roundw
            case rel => exact ⟨k + 1, _, _, _, by omega, by go_num, rfl, HSX, HO10, hszN, HXN, HBN⟩
            case measure => simp [intOf]; omega
    · have hkn : k = n := by omega
      have HKN := Lib.hid hkn
      clear hkn
      go_wp2_with fail
      go_ret
      exact ⟨L, _, _, by rw [← HKN.out]; rfl, by rw [← HKN.out]; exact HSO.out, HOk.out.rd eI_len (by decide), HB19.out⟩
end Go.Proofs.YthmiahekijeehaaGreat
