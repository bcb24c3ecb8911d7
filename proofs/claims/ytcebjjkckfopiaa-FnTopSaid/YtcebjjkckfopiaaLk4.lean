/-
  All links noted: the reference; whether links are consistent.
-/
import Derived.Test.YtcebjjkckfopiaaLkW
import Derived.Test.YtcebjjkckfopiaaBx
import Derived.Test.YtcebjjkckfopiaaErr0
import Derived.Test.YtcebjjkckfopiaaTwo
import Derived.Test.YtcebjjkckfopiaaAppL
import Derived.Deep.DeepCutAuto
import Derived.Deep.CutRange
import Derived.BigQuiet
import Derived.BigRegion
namespace Go.Proofs.Ytcebjjkckfopiaa
open Go.RowKit
set_option maxRecDepth 100000
set_option linter.unusedVariables false
set_option linter.unusedSimpArgs false
set_option maxHeartbeats 1000000 in
theorem isLink_ok (n : Nat) (l : Lnk) (h : LkOk n l) (w : World) : Calls Try.prog 57 #[.int .i64 (n : Int), .agg #[.int .i64 l.a, .int .i64 l.b, .int .i64 l.diff]] w fun e w' => e = .returned (.bool true) ∧ Below w.heap.size w w' := by
  obtain ⟨h0, h1, h2, h3, h4⟩ := h
  have d0 : decide (0 ≤ l.a) = true := decide_eq_true h0
  have d1 : decide (l.a < l.b) = true := decide_eq_true h1
  have d2 : decide (l.b < (n : Int)) = true := decide_eq_true h2
  have d3 : inB l.diff (-5000) 5000 = true := inB_iff.2 ⟨h3, h4⟩
  go_enter Try.func57, Try.ntmps57
  have HX1 := CAt.new w #[.int .i64 l.a, .int .i64 l.b, .int .i64 l.diff] 75
  have hb2 := (Below.refl w.heap.size w).alloc (Nat.le_refl _) (.cells #[.int .i64 l.a, .int .i64 l.b, .int .i64 l.diff] 75)
  obtain ⟨wv4, HW5⟩ : ∃ wx, w.alloc (.cells #[.int .i64 l.a, .int .i64 l.b, .int .i64 l.diff] 75) = wx := ⟨_, rfl⟩
  obtain ⟨g3, HG6⟩ : ∃ gx, w.heap.size = gx := ⟨_, rfl⟩
  rw [HW5] at HX1 hb2
  rw [HG6] at HX1
  have hge7 : w.heap.size ≤ g3 := by rw [← HG6]; exact Nat.le_refl _
  have HX1_ := Lib.hid HX1
  clear HX1
  have HX1 := HX1_
  clear HX1_
  have HW5_ := Lib.hid HW5
  clear HW5
  have HW5 := HW5_
  clear HW5_
  have HG6_ := Lib.hid HG6
  clear HG6
  have HG6 := HG6_
  clear HG6_
  have HB8 : Hid (Below w.heap.size w wv4) := Lib.hid hb2
  clear hb2
  go_upto_region 1 with (fail)
  rw [HW5.out]
  rw [HG6.out]
  have c9 : wv4.cell? ⟨g3, 0, none⟩ = some (.int .i64 l.a) := HX1.out.cell 0
  have c10 : wv4.cell? ⟨g3, 1, none⟩ = some (.int .i64 l.b) := HX1.out.cell 1
  have c11 : wv4.cell? ⟨g3, 2, none⟩ = some (.int .i64 l.diff) := HX1.out.cell 2
  go_wp2_with fail
  refine (in_any l.diff (-5000) 5000 _).mono ?_
  rintro e wz ⟨rfl, rfl⟩
  clear c9 c10 c11
  go_wp2_with fail
  go_ret
  exact ⟨by first | rfl | exact d3 ▸ rfl | simp [d3], HB8.out⟩
set_option maxHeartbeats 1000000 in
theorem l20One_ok (n : Nat) (l : Lnk) (h : LkOk n l) (w : World) : Calls Try.prog 60 #[.agg #[.int .i64 l.a, .int .i64 l.b, .int .i64 l.diff], .int .i64 (n : Int)] w fun e w' => e = .returned (.bool true) ∧ Below w.heap.size w w' := by
  obtain ⟨h0, h1, h2, h3, h4⟩ := h
  have d0 : decide (0 ≤ l.a) = true := decide_eq_true h0
  have d1 : decide (l.a < l.b) = true := decide_eq_true h1
  have d2 : decide (l.b < (n : Int)) = true := decide_eq_true h2
  have d3 : inB l.diff (-5000) 5000 = true := inB_iff.2 ⟨h3, h4⟩
  go_enter Try.func60, Try.ntmps60
  have HX1 := CAt.new w #[.int .i64 l.a, .int .i64 l.b, .int .i64 l.diff] 75
  have hb2 := (Below.refl w.heap.size w).alloc (Nat.le_refl _) (.cells #[.int .i64 l.a, .int .i64 l.b, .int .i64 l.diff] 75)
  obtain ⟨wv4, HW5⟩ : ∃ wx, w.alloc (.cells #[.int .i64 l.a, .int .i64 l.b, .int .i64 l.diff] 75) = wx := ⟨_, rfl⟩
  obtain ⟨g3, HG6⟩ : ∃ gx, w.heap.size = gx := ⟨_, rfl⟩
  rw [HW5] at HX1 hb2
  rw [HG6] at HX1
  have hge7 : w.heap.size ≤ g3 := by rw [← HG6]; exact Nat.le_refl _
  have HX1_ := Lib.hid HX1
  clear HX1
  have HX1 := HX1_
  clear HX1_
  have HW5_ := Lib.hid HW5
  clear HW5
  have HW5 := HW5_
  clear HW5_
  have HG6_ := Lib.hid HG6
  clear HG6
  have HG6 := HG6_
  clear HG6_
  have HB8 : Hid (Below w.heap.size w wv4) := Lib.hid hb2
  clear hb2
  go_upto_region 1 with (fail)
  rw [HW5.out]
  rw [HG6.out]
  have c9 : wv4.cell? ⟨g3, 0, none⟩ = some (.int .i64 l.a) := HX1.out.cell 0
  have c10 : wv4.cell? ⟨g3, 1, none⟩ = some (.int .i64 l.b) := HX1.out.cell 1
  have c11 : wv4.cell? ⟨g3, 2, none⟩ = some (.int .i64 l.diff) := HX1.out.cell 2
  go_wp2_with fail
  refine (l00In_any l.diff (-5000) 5000 _).mono ?_
  rintro e wz ⟨rfl, rfl⟩
  clear c9 c10 c11
  go_wp2_with fail
  go_ret
  exact ⟨by first | rfl | exact d3 ▸ rfl | simp [d3], HB8.out⟩
set_option maxHeartbeats 1000000 in
theorem validLinks_ok (n : Nat) (ls : List Lnk) (a : Option Addr) (m c : Nat) (w : World) (h1 : 1 ≤ n) (h10 : n ≤ 10) (hm : m ≤ 12) (hl : ls.length = m) (hok : ∀ l ∈ ls, LkOk n l) (hr : Rd Lnk.enc 3 w a ls) : Calls Try.prog 38 #[.int .i64 (n : Int), .slice a m c] w fun e w' => e = .returned (.bool true) ∧ Below w.heap.size w w' := by
  have HL := Lib.hid hl
  have HR := Lib.hid hr
  clear hl hr
  have dn : inB (n : Int) 1 10 = true := inB_iff.2 (by omega)
  have dm : decide (12 < (m : Int)) = false := decide_eq_false (by omega)
  have dmn : decide (12 < m) = false := decide_eq_false (by omega)
  have dl : decide ((m : Int) ≤ 12) = true := decide_eq_true (by omega)
  have dln : decide (m ≤ 12) = true := decide_eq_true (by omega)
  go_enter Try.func38, Try.ntmps38
  go_wp2_with fail
  refine (in_any (n : Int) 1 10 _).mono ?_
  rintro e wz ⟨rfl, rfl⟩
  go_wp2_with fail
  go_loopw [17] (fun i wr => ∃ (k : Nat), k ≤ m ∧ i = .int .i64 k ∧ Hid (Below w.heap.size w wr)) (fun i _ => m - (intOf i).toNat)
  case atStart => exact ⟨0, Nat.zero_le _, rfl, Lib.hid (Below.refl _ _)⟩
  case round =>
    obtain ⟨k, hk, rfl, HBk⟩ := hrel
    obtain ⟨wr1, hwr⟩ : ∃ wx, wx = wr := ⟨_, rfl⟩
    subst hwr
    have HB2 := HBk
    clear HBk
    by_cases hlt : k < m
    · obtain ⟨x, hx⟩ : ∃ z, (ls)[k]? = some z := ⟨_, List.getElem?_eq_getElem (by rw [HL.out]; omega)⟩
      have HXx := Lib.hid hx
      clear hx
      have HOKx := Lib.hid (hok x (List.mem_of_getElem? HXx.out))
      obtain ⟨b3, o4, hab, HC5⟩ := HR.out.addr (by rw [HL.out]; omega)
      have HC5_ := Lib.hid HC5
      clear HC5
      have HC5 := HC5_
      clear HC5_
      subst hab
      have c6 : wr1.cell? ⟨b3, o4 + k * 3, none⟩ = some (.int .i64 x.a) := HC5.out k x HXx.out wr1 HB2.out 0 _ rfl
      have c7 : wr1.cell? ⟨b3, o4 + k * 3 + 1, none⟩ = some (.int .i64 x.b) := HC5.out k x HXx.out wr1 HB2.out 1 _ rfl
      have c8 : wr1.cell? ⟨b3, o4 + k * 3 + 2, none⟩ = some (.int .i64 x.diff) := HC5.out k x HXx.out wr1 HB2.out 2 _ rfl
      have j9 : (0 : Int) ≤ (k : Nat) := by omega
      have j10 : ((k : Nat) : Int) < m := by omega
      have HX11 := CAt.new wr1 #[.int .i64 x.a, .int .i64 x.b, .int .i64 x.diff] 75
      have hb12 := (Below.refl wr1.heap.size wr1).alloc (Nat.le_refl _) (.cells #[.int .i64 x.a, .int .i64 x.b, .int .i64 x.diff] 75)
      obtain ⟨wv14, HW15⟩ : ∃ wx, wr1.alloc (.cells #[.int .i64 x.a, .int .i64 x.b, .int .i64 x.diff] 75) = wx := ⟨_, rfl⟩
      obtain ⟨g13, HG16⟩ : ∃ gx, wr1.heap.size = gx := ⟨_, rfl⟩
      rw [HW15] at HX11 hb12
      rw [HG16] at HX11
      have hge17 : w.heap.size ≤ g13 := by rw [← HG16]; exact HB2.out.size
      have HX11_ := Lib.hid HX11
      clear HX11
      have HX11 := HX11_
      clear HX11_
      have HW15_ := Lib.hid HW15
      clear HW15
      have HW15 := HW15_
      clear HW15_
      have HG16_ := Lib.hid HG16
      clear HG16
      have HG16 := HG16_
      clear HG16_
      have HB18 : Hid (Below w.heap.size w wv14) := Lib.hid (HB2.out.trans (hb12.mono HB2.out.size))
      clear hb12
      go_upto_region 6 with (fail)
      rw [HW15.out]
      rw [HG16.out]
      clear c6 c7 c8 j9 j10
      have c19 : wv14.cell? ⟨g13, 0, none⟩ = some (.int .i64 x.a) := HX11.out.cell 0
      have c20 : wv14.cell? ⟨g13, 1, none⟩ = some (.int .i64 x.b) := HX11.out.cell 1
      have c21 : wv14.cell? ⟨g13, 2, none⟩ = some (.int .i64 x.diff) := HX11.out.cell 2
      go_wp2_with fail
      refine (isLink_ok n x HOKx.out _).mono ?_
      rintro e wv22 ⟨rfl, hb23⟩
      clear c19 c20 c21
      have HB24 : Hid (Below w.heap.size w wv22) := Lib.hid (HB18.out.trans (hb23.mono HB18.out.size))
      have HX25 := Lib.hid (HX11.out.below hb23)
      clear hb23
      have i26 : IntKind.i64.wrap ((k : Int) + 1) = (k : Int) + 1 := IntWalk.i64_in _ (by omega)
      go_wp2_with fail
      go_roundw
      case rel => exact ⟨k + 1, by omega, by go_num, HB24⟩
      case measure => simp [intOf]; omega
    · have hkn : k = m := by omega
      have HKN := Lib.hid hkn
      clear hkn
      go_wp2_with fail
      go_ret
      exact ⟨rfl, HB2.out⟩
set_option maxHeartbeats 1000000 in
theorem l20Ok_ok (n : Nat) (ls : List Lnk) (a : Option Addr) (m c : Nat) (w : World) (h1 : 1 ≤ n) (h10 : n ≤ 10) (hm : m ≤ 12) (hl : ls.length = m) (hok : ∀ l ∈ ls, LkOk n l) (hr : Rd Lnk.enc 3 w a ls) : Calls Try.prog 40 #[.int .i64 (n : Int), .slice a m c] w fun e w' => e = .returned (.bool true) ∧ Below w.heap.size w w' := by
  have HL := Lib.hid hl
  have HR := Lib.hid hr
  clear hl hr
  have dn : inB (n : Int) 1 10 = true := inB_iff.2 (by omega)
  have dm : decide (12 < (m : Int)) = false := decide_eq_false (by omega)
  have dmn : decide (12 < m) = false := decide_eq_false (by omega)
  have dl : decide ((m : Int) ≤ 12) = true := decide_eq_true (by omega)
  have dln : decide (m ≤ 12) = true := decide_eq_true (by omega)
  go_enter Try.func40, Try.ntmps40
  go_wp2_with fail
  refine (l00In_any (n : Int) 1 10 _).mono ?_
  rintro e wz ⟨rfl, rfl⟩
  go_wp2_with fail
  go_loopw [5] (fun i wr => ∃ (k : Nat), k ≤ m ∧ i = .int .i64 k ∧ Hid (Below w.heap.size w wr)) (fun i _ => m - (intOf i).toNat)
  case atStart => exact ⟨0, Nat.zero_le _, rfl, Lib.hid (Below.refl _ _)⟩
  case round =>
    obtain ⟨k, hk, rfl, HBk⟩ := hrel
    obtain ⟨wr1, hwr⟩ : ∃ wx, wx = wr := ⟨_, rfl⟩
    subst hwr
    have HB2 := HBk
    clear HBk
    by_cases hlt : k < m
    · obtain ⟨x, hx⟩ : ∃ z, (ls)[k]? = some z := ⟨_, List.getElem?_eq_getElem (by rw [HL.out]; omega)⟩
      have HXx := Lib.hid hx
      clear hx
      have HOKx := Lib.hid (hok x (List.mem_of_getElem? HXx.out))
      obtain ⟨b3, o4, hab, HC5⟩ := HR.out.addr (by rw [HL.out]; omega)
      have HC5_ := Lib.hid HC5
      clear HC5
      have HC5 := HC5_
      clear HC5_
      subst hab
      have c6 : wr1.cell? ⟨b3, o4 + k * 3, none⟩ = some (.int .i64 x.a) := HC5.out k x HXx.out wr1 HB2.out 0 _ rfl
      have c7 : wr1.cell? ⟨b3, o4 + k * 3 + 1, none⟩ = some (.int .i64 x.b) := HC5.out k x HXx.out wr1 HB2.out 1 _ rfl
      have c8 : wr1.cell? ⟨b3, o4 + k * 3 + 2, none⟩ = some (.int .i64 x.diff) := HC5.out k x HXx.out wr1 HB2.out 2 _ rfl
      have j9 : (0 : Int) ≤ (k : Nat) := by omega
      have j10 : ((k : Nat) : Int) < m := by omega
      go_wp2_with fail
      refine (l20One_ok n x HOKx.out _).mono ?_
      rintro e wv11 ⟨rfl, hb12⟩
      clear c6 c7 c8 j9 j10
      have HB13 : Hid (Below w.heap.size w wv11) := Lib.hid (HB2.out.trans (hb12.mono HB2.out.size))
      clear hb12
      have i14 : IntKind.i64.wrap ((k : Int) + 1) = (k : Int) + 1 := IntWalk.i64_in _ (by omega)
      go_wp2_with fail
      go_roundw
      case rel => exact ⟨k + 1, by omega, by go_num, HB13⟩
      case measure => simp [intOf]; omega
    · have hkn : k = m := by omega
      have HKN := Lib.hid hkn
      clear hkn
      go_wp2_with fail
      go_ret
      exact ⟨rfl, HB2.out⟩
open Go.RowKit
set_option maxRecDepth 100000
set_option linter.unusedVariables false
set_option linter.unusedSimpArgs false
def relFk (F : List Int) (g k : Int) (j : Nat) : List Int := relF (F.take j) g k ++ F.drop j
def relNk (F N : List Int) (g s : Int) (j : Nat) : List Int := relN (F.take j) (N.take j) g s ++ N.drop j
theorem relFk_zero (F : List Int) (g k : Int) : relFk F g k 0 = F := by simp [relFk, relF]
theorem relNk_zero (F N : List Int) (g s : Int) : relNk F N g s 0 = N := by simp [relNk, relN]
theorem relFk_all {F : List Int} {g k : Int} {n : Nat} (h : F.length = n) : relFk F g k n = relF F g k := by
  unfold relFk; rw [List.take_of_length_le (by omega), List.drop_eq_nil_of_le (by omega), List.append_nil]
theorem relNk_all {F N : List Int} {g s : Int} {n : Nat} (h : F.length = n) (h2 : N.length = n) : relNk F N g s n = relN F N g s := by
  unfold relNk; rw [List.take_of_length_le (by omega), List.take_of_length_le (by omega), List.drop_eq_nil_of_le (by omega), List.append_nil]
theorem relFk_len {F : List Int} {g k : Int} {j : Nat} (hj : j ≤ F.length) : (relF (F.take j) g k).length = j := by rw [relF_len, List.length_take]; omega
theorem relNk_len {F N : List Int} {g s : Int} {j : Nat} (hj : j ≤ F.length) (h : F.length = N.length) : (relN (F.take j) (N.take j) g s).length = j := by rw [relN_len (by rw [List.length_take, List.length_take, h]), List.length_take]; omega
theorem relFk_at {F : List Int} {g k : Int} {j : Nat} (hj : j < F.length) : (relFk F g k j)[j]? = F[j]? := by
  unfold relFk
  rw [List.getElem?_append_right (by rw [relFk_len (by omega)]; omega), relFk_len (by omega), Nat.sub_self, List.getElem?_drop]
  rfl
theorem relNk_at {F N : List Int} {g s : Int} {j : Nat} (hj : j < F.length) (h : F.length = N.length) : (relNk F N g s j)[j]? = N[j]? := by
  unfold relNk
  rw [List.getElem?_append_right (by rw [relNk_len (by omega) h]; omega), relNk_len (by omega) h, Nat.sub_self, List.getElem?_drop]
  rfl
theorem take_sn {α : Type} {L : List α} {j : Nat} {x : α} (h : L[j]? = some x) : L.take (j + 1) = L.take j ++ [x] := by rw [List.take_add_one, h]; rfl
theorem drop_sn {α : Type} {L : List α} {j : Nat} {x : α} (h : L[j]? = some x) : L.drop j = x :: L.drop (j + 1) := by
  have h1 := List.getElem?_eq_some_iff.1 h
  rw [List.drop_eq_getElem_cons h1.1, h1.2]
theorem set_mid {α : Type} {A B : List α} {x y : α} {j : Nat} (h : A.length = j) : (A ++ x :: B).set j y = (A ++ [y]) ++ B := by
  subst h
  rw [List.set_append_right _ _ (Nat.le_refl _), Nat.sub_self, List.set_cons_zero, List.append_assoc]; rfl
theorem relF_app (A : List Int) (x g k : Int) : relF (A ++ [x]) g k = relF A g k ++ [if x = g then k else x] := by simp [relF]
theorem relN_app {A M : List Int} (h : A.length = M.length) (x y g s : Int) : relN (A ++ [x]) (M ++ [y]) g s = relN A M g s ++ [if x = g then y + s else y] := by
  unfold relN; rw [List.zipWith_append h]; rfl
theorem relFk_yes {F : List Int} {g k : Int} {j : Nat} (h : F[j]? = some g) : (relFk F g k j).set j k = relFk F g k (j + 1) := by
  have hj := (List.getElem?_eq_some_iff.1 h).1
  unfold relFk
  rw [drop_sn h, set_mid (relFk_len (by omega)), take_sn h, relF_app, if_pos rfl]
theorem relFk_no {F : List Int} {g k x : Int} {j : Nat} (h : F[j]? = some x) (hx : ¬ x = g) : relFk F g k (j + 1) = relFk F g k j := by
  unfold relFk
  rw [take_sn h, relF_app, if_neg hx, drop_sn h, List.append_assoc]; rfl
theorem relNk_yes {F N : List Int} {g s y : Int} {j : Nat} (hl : F.length = N.length) (h : F[j]? = some g) (hy : N[j]? = some y) : (relNk F N g s j).set j (y + s) = relNk F N g s (j + 1) := by
  have hj := (List.getElem?_eq_some_iff.1 h).1
  unfold relNk
  rw [drop_sn hy, set_mid (relNk_len (by omega) hl), take_sn h, take_sn hy, relN_app (by rw [List.length_take, List.length_take, hl]), if_pos rfl]
theorem relNk_no {F N : List Int} {g s x y : Int} {j : Nat} (hl : F.length = N.length) (h : F[j]? = some x) (hx : ¬ x = g) (hy : N[j]? = some y) : relNk F N g s (j + 1) = relNk F N g s j := by
  unfold relNk
  rw [take_sn h, take_sn hy, relN_app (by rw [List.length_take, List.length_take, hl]), if_neg hx, drop_sn hy, List.append_assoc]; rfl
theorem lkStep_eq {S : LkS} {l : Lnk} {fa fb na nb : Int} (h1 : S.F[l.a.toNat]? = some fa) (h2 : S.F[l.b.toNat]? = some fb) (h3 : S.N[l.a.toNat]? = some na) (h4 : S.N[l.b.toNat]? = some nb) :
    lkStep S l = if fa = fb then ⟨S.F, S.N, S.ok && decide (na + l.diff - nb = 0)⟩ else if fb < fa then ⟨relF S.F fa fb, relN S.F S.N fa (-(na + l.diff - nb)), S.ok⟩ else ⟨relF S.F fb fa, relN S.F S.N fb (na + l.diff - nb), S.ok⟩ := by
  have e1 : lkF S l.a = fa := by simp [lkF, List.getD, h1]
  have e2 : lkF S l.b = fb := by simp [lkF, List.getD, h2]
  have e3 : lkN S l.a = na := by simp [lkN, List.getD, h3]
  have e4 : lkN S l.b = nb := by simp [lkN, List.getD, h4]
  unfold lkStep; rw [e1, e2, e3, e4]
/-- the numbers of a state are small -/
theorem LkI.sm {n : Nat} {ls : List Lnk} {S : LkS} (h : LkI n ls S) (hm : ls.length ≤ 12) {i : Nat} {y : Int} (hy : S.N[i]? = some y) : -1328600000 ≤ y ∧ y ≤ 1328600000 := by
  have hi := (List.getElem?_eq_some_iff.1 hy).1
  rw [h.ln] at hi
  have h1 := h.bd i hi
  have e : S.N.getD i 0 = y := by simp [List.getD, hy]
  have h2 := bdM_le hm
  rw [e] at h1; omega
theorem iota_take (n k : Nat) (hk : k ≤ n) : ((List.range n).map fun (i : Nat) => (i : Int)).take k = (List.range k).map fun (i : Nat) => (i : Int) := by
  rw [← List.map_take, List.take_range, Nat.min_eq_left hk]
set_option maxHeartbeats 8000000 in
theorem offsets_any (n : Nat) (ls : List Lnk) (a : Option Addr) (m c : Nat) (w : World) (h1 : 1 ≤ n) (h10 : n ≤ 10) (hm : m ≤ 12) (hl : ls.length = m) (hok : ∀ l ∈ ls, LkOk n l) (hr : Rd Lnk.enc 3 w a ls) :
    Calls Try.prog 59 #[.int .i64 (n : Int), .slice a m c] w fun e w' => ∃ g h, e = .returned (.tuple #[.slice (some ⟨g, 0, none⟩) n n, .slice (some ⟨h, 0, none⟩) n n, .bool (lkJ n ls).ok]) ∧ TwoR w.heap.size w w' g h n n n (lkJ n ls).F (lkJ n ls).N := by
  have HL := Lib.hid hl
  have HO := Lib.hid hok
  have HR := Lib.hid hr
  obtain ⟨B, hB⟩ : ∃ B, w.heap.size = B := ⟨_, rfl⟩
  obtain ⟨CS, hmk, hown⟩ := makeRow n (by omega)
  have HT := Lib.hid (TwoR.made (w := w) hown)
  have HBW := Lib.hid hB
  have hBsz : B ≤ w.heap.size := by omega
  clear hl hok hr hown
  go_enter Try.func59, Try.ntmps59
  rw [hB]
  clear hB
  go_upto_region 1 with (fail)
  go_cut [7, 8] (fun s7 s8 wx => ∃ g h, s7 = .slice (some ⟨g, 0, none⟩) n n ∧ s8 = .slice (some ⟨h, 0, none⟩) n n ∧ Hid (TwoR B w wx g h n n n (List.replicate n 0) (List.replicate n 0)))
  case first =>
    go_region
    all_goals
      go_wp2_with fail
      go_meet
      first
        | exact ⟨_, _, rfl, rfl, Lib.hid (by rw [← HBW.out]; exact HT.out.1)⟩
        | exact ⟨_, _, rfl, rfl, Lib.hid (by rw [← HBW.out]; exact HT.out.2)⟩
        | fail
  case rest =>
  obtain ⟨g, h, rfl, rfl, HT0⟩ := hcut
  clear hmk HT
  go_wp2_with fail
  go_loopw [23] (fun i wr => ∃ k : Nat, k ≤ n ∧ i = .int .i64 k ∧ Hid (TwoR B w wr g h n n n (((List.range n).map fun (i : Nat) => (i : Int)).take k ++ List.replicate (n - k) 0) (List.replicate n 0))) (fun i _ => n - (intOf i).toNat)
  case atStart => exact ⟨0, Nat.zero_le _, rfl, Lib.hid (by rw [List.take_zero, List.nil_append, Nat.sub_zero]; exact HT0.out)⟩
  case round =>
  obtain ⟨k, hk, rfl, HTk⟩ := hrel
  by_cases hlt : k < n
  · have hx0 : (((List.range n).map fun (i : Nat) => (i : Int)).take k ++ List.replicate (n - k) 0)[k]? = some 0 := by
      have e9 : (((List.range n).map fun (i : Nat) => (i : Int)).take k).length = k := by rw [List.length_take, List.length_map, List.length_range]; omega
      rw [List.getElem?_append_right (by omega), e9, Nat.sub_self, List.getElem?_replicate, if_pos (by omega)]
    have c0 : wr.cell? ⟨g, k, none⟩ = some (.int .i64 0) := HTk.out.cF hx0
    have f0 : wr.frozen? ⟨g, k, none⟩ = false := HTk.out.zF k
    have j0 : (0 : Int) ≤ (k : Nat) := by omega
    have j1 : ((k : Nat) : Int) < (n : Nat) := by omega
    have HT2 := Lib.hid (HTk.out.setF k (k : Int))
    have HFS := Lib.hid (fill_step ((List.range n).map fun (i : Nat) => (i : Int)) 0 (k : Int) n k (by simp) (by simp [hlt]) hlt)
    rw [HFS.out] at HT2
    clear hx0
    go_wp2_with fail
    go_roundw
    case rel => exact ⟨k + 1, by omega, by go_num, HT2⟩
    case measure => simp [intOf]; omega
  obtain rfl : n = k := by omega
  have HTs : Hid (TwoR B w wr g h n n n (lkJ n (ls.take 0)).F (lkJ n (ls.take 0)).N) := Lib.hid (by
    have h9 := HTk.out
    rw [Nat.sub_self, List.replicate_zero, List.append_nil, List.take_of_length_le (by simp)] at h9
    exact h9)
  clear HTk HT0
  go_wp2_with fail
  clear hlt hk
  go_loopw [10, 33] (fun f i wr => ∃ k : Nat, k ≤ m ∧ i = .int .i64 k ∧ f = .bool (lkJ n (ls.take k)).ok ∧ Hid (TwoR B w wr g h n n n (lkJ n (ls.take k)).F (lkJ n (ls.take k)).N)) (fun _ i _ => m - (intOf i).toNat)
  case atStart => exact ⟨0, Nat.zero_le _, rfl, rfl, HTs⟩
  case round =>
  obtain ⟨k, hk, rfl, rfl, HTk⟩ := hrel
  obtain ⟨wA, hwA⟩ : ∃ wx, wx = wr := ⟨_, rfl⟩
  subst hwA
  clear HTs
  by_cases hlt : k < m
  case neg =>
    obtain rfl : m = k := by omega
    have HE : Hid (ls.take m = ls) := Lib.hid (List.take_of_length_le (by rw [HL.out]; omega))
    rw [HE.out] at HTk ⊢
    go_wp2_with fail
    go_ret3
    exact ⟨g, h, rfl, HTk.out⟩
  obtain ⟨l, hlx⟩ : ∃ z, ls[k]? = some z := ⟨_, List.getElem?_eq_getElem (by rw [HL.out]; exact hlt)⟩
  have hlok := HO.out l (List.mem_of_getElem? hlx)
  have HLI := Lib.hid (lkJ_ok (n := n) (ls.take k) fun y hy => HO.out y (List.mem_of_mem_take hy))
  have HST0 : Hid (lkJ n (ls.take (k + 1)) = lkStep (lkJ n (ls.take k)) l) := Lib.hid (by rw [take_sn hlx]; exact lkJ_snoc _ _ _)
  have HM12 : Hid ((ls.take k).length ≤ 12) := Lib.hid (by rw [List.length_take]; omega)
  obtain ⟨b, ofs, hab, hC⟩ := (HR.out.below (by have h9 := HTk.out.b; rw [← HBW.out] at h9; exact h9)).addr (by rw [HL.out]; omega)
  subst hab
  have x0 := hC k l hlx _ (Below.refl _ _) 0 _ rfl
  rw [Nat.add_zero] at x0
  have x1 := hC k l hlx _ (Below.refl _ _) 1 _ rfl
  have x2 := hC k l hlx _ (Below.refl _ _) 2 _ rfl
  obtain ⟨S, hS⟩ : ∃ z, lkJ n (ls.take k) = z := ⟨_, rfl⟩
  rw [hS] at HTk HLI HST0 ⊢
  obtain ⟨q0, q1, q2, q3, q4⟩ := hlok
  obtain ⟨fa, hfa⟩ : ∃ z, S.F[l.a.toNat]? = some z := ⟨_, List.getElem?_eq_getElem (by rw [HLI.out.lf]; omega)⟩
  obtain ⟨fb, hfb⟩ : ∃ z, S.F[l.b.toNat]? = some z := ⟨_, List.getElem?_eq_getElem (by rw [HLI.out.lf]; omega)⟩
  obtain ⟨na, hna⟩ : ∃ z, S.N[l.a.toNat]? = some z := ⟨_, List.getElem?_eq_getElem (by rw [HLI.out.ln]; omega)⟩
  obtain ⟨nb, hnb⟩ : ∃ z, S.N[l.b.toNat]? = some z := ⟨_, List.getElem?_eq_getElem (by rw [HLI.out.ln]; omega)⟩
  have HSE : Hid (lkJ n (ls.take (k + 1)) = _) := Lib.hid (HST0.out.trans (lkStep_eq hfa hfb hna hnb))
  have hba := HLI.out.sm HM12.out hna
  have hbb := HLI.out.sm HM12.out hnb
  have hbx : Below wA.heap.size wA (wA.alloc (.cells #[.int .i64 l.a, .int .i64 l.b, .int .i64 l.diff] 75)) := (Below.refl _ _).alloc (Nat.le_refl _) _
  have hTB := HTk.out.below hbx (Nat.le_trans hBsz HTk.out.b.size)
  have hCX := CAt.new wA #[.int .i64 l.a, .int .i64 l.b, .int .i64 l.diff] 75
  obtain ⟨wB, hwB⟩ : ∃ wx, wA.alloc (.cells #[.int .i64 l.a, .int .i64 l.b, .int .i64 l.diff] 75) = wx := ⟨_, rfl⟩
  obtain ⟨gl, hgl⟩ : ∃ gx, wA.heap.size = gx := ⟨_, rfl⟩
  rw [hwB] at hTB hCX
  rw [hgl] at hCX
  have HWB := Lib.hid hwB
  have HGL := Lib.hid hgl
  have HTB := Lib.hid hTB
  have HCX := Lib.hid hCX
  have HFA := Lib.hid hfa
  have HFB := Lib.hid hfb
  have HNA := Lib.hid hna
  have HNB := Lib.hid hnb
  clear hTB hCX hwB hgl hbx hC hlx hfa hfb hna hnb HST0 hS
  go_upto_region 11 with (fail)
  rw [HWB.out, HGL.out]
  clear HWB HGL x0 x1 x2
  have y0 : wB.cell? ⟨gl, 0, none⟩ = some (.int .i64 l.a) := HCX.out.cell 0
  have y1 : wB.cell? ⟨gl, 1, none⟩ = some (.int .i64 l.b) := HCX.out.cell 1
  have y2 : wB.cell? ⟨gl, 2, none⟩ = some (.int .i64 l.diff) := HCX.out.cell 2
  have y3 : wB.cell? ⟨h, l.a.toNat, none⟩ = some (.int .i64 na) := HTB.out.cN HNA.out
  have y4 : wB.cell? ⟨h, l.b.toNat, none⟩ = some (.int .i64 nb) := HTB.out.cN HNB.out
  have a1 : l.a < (n : Int) := by omega
  have b0 : (0 : Int) ≤ l.b := by omega
  have i1 : IntKind.i64.wrap (na + l.diff) = na + l.diff := IntWalk.i64_in _ (by omega)
  have i2 : IntKind.i64.wrap (na + l.diff - nb) = na + l.diff - nb := IntWalk.i64_in _ (by omega)
  go_wp2_with fail
  go_quiet (fail)
  have hbq := below_drewN (Below.refl wB.heap.size wB) nq
  have hTC := HTB.out.below hbq (Nat.le_trans hBsz HTB.out.b.size)
  have hCC := HCX.out.below hbq
  obtain ⟨wC, hwC⟩ : ∃ wx, wB.drewN nq = wx := ⟨_, rfl⟩
  rw [hwC] at hTC hCC ⊢
  have HTC := Lib.hid hTC
  have HCC := Lib.hid hCC
  clear hTC hCC hwC hbq y0 y1 y2 y3 y4
  obtain ⟨sh, hsh⟩ : ∃ z, na + l.diff - nb = z := ⟨_, rfl⟩
  rw [hsh] at HSE ⊢
  have hshb : -5000000000 ≤ sh ∧ sh ≤ 5000000000 := by omega
  clear hsh i1 i2
  go_upto_region 12 with (fail)
  have y0 : wC.cell? ⟨gl, 0, none⟩ = some (.int .i64 l.a) := HCC.out.cell 0
  have y1 : wC.cell? ⟨gl, 1, none⟩ = some (.int .i64 l.b) := HCC.out.cell 1
  have y3 : wC.cell? ⟨g, l.a.toNat, none⟩ = some (.int .i64 fa) := HTC.out.cF HFA.out
  have y4 : wC.cell? ⟨g, l.b.toNat, none⟩ = some (.int .i64 fb) := HTC.out.cF HFB.out
  go_wp2_with fail
  go_quiet (fail)
  have hbq := below_drewN (Below.refl wC.heap.size wC) nq
  have hTC := HTC.out.below hbq (Nat.le_trans hBsz HTC.out.b.size)
  obtain ⟨wq, hwC⟩ : ∃ wx, wC.drewN nq = wx := ⟨_, rfl⟩
  rw [hwC] at hTC ⊢
  have HTq := Lib.hid hTC
  clear hTC hwC hbq y0 y1 y3 y4 HTC HCC HTB HCX HTk
  by_cases hfe : fa = fb
  · have dfe : (fa == fb) = true := beq_iff_eq.2 hfe
    have HSF : Hid (lkJ n (ls.take (k + 1)) = ⟨S.F, S.N, S.ok && decide (sh = 0)⟩) := Lib.hid (by rw [HSE.out, if_pos hfe])
    clear hfe HSE
    cases hSo : S.ok with
    | true =>
      have HSO := Lib.hid hSo
      clear hSo
      go_wp2_with fail
      go_roundw
      case rel => exact ⟨k + 1, by omega, by go_num, by rw [HSF.out, HSO.out, Bool.true_and]; rfl, Lib.hid (by rw [HSF.out]; exact HTq.out)⟩
      case measure => simp [intOf]; omega
    | false =>
      have HSO := Lib.hid hSo
      clear hSo
      go_wp2_with fail
      go_roundw
      case rel => exact ⟨k + 1, by omega, by go_num, by rw [HSF.out, HSO.out, Bool.false_and], Lib.hid (by rw [HSF.out]; exact HTq.out)⟩
      case measure => simp [intOf]; omega
  · have dfe : (fa == fb) = false := beq_eq_false_iff_ne.2 hfe
    by_cases hlt2 : fb < fa
    · have dlt : decide (fb < fa) = true := decide_eq_true hlt2
      have ish : IntKind.i64.wrap (-sh) = -sh := IntWalk.i64_in _ (by omega)
      have HST : Hid (lkJ n (ls.take (k + 1)) = ⟨relF S.F fa fb, relN S.F S.N fa (-sh), S.ok⟩) := Lib.hid (by rw [HSE.out, if_neg hfe, if_pos hlt2])
      clear hfe hlt2 HSE
      obtain ⟨so, hso⟩ : ∃ z, S.ok = z := ⟨_, rfl⟩
      rw [hso] at HST ⊢
      clear hso
      go_wp2_with fail
      go_loopw [78] (fun i wr => ∃ j : Nat, j ≤ n ∧ i = .int .i64 j ∧ Hid (TwoR B w wr g h n n n (relFk S.F fa fb j) (relNk S.F S.N fa (-sh) j))) (fun i _ => n - (intOf i).toNat)
      case atStart => exact ⟨0, Nat.zero_le _, rfl, Lib.hid (by rw [relFk_zero, relNk_zero]; exact HTq.out)⟩
      case round =>
        obtain ⟨j, hj, rfl, HTj⟩ := hrel
        obtain ⟨wj, hwj⟩ : ∃ wx, wx = wr := ⟨_, rfl⟩
        subst hwj
        by_cases hjn : j < n
        · obtain ⟨x, hx⟩ : ∃ z, S.F[j]? = some z := ⟨_, List.getElem?_eq_getElem (by rw [HLI.out.lf]; exact hjn)⟩
          obtain ⟨y, hy⟩ : ∃ z, S.N[j]? = some z := ⟨_, List.getElem?_eq_getElem (by rw [HLI.out.ln]; exact hjn)⟩
          have HX := Lib.hid hx
          have HY := Lib.hid hy
          have HLL : Hid (S.F.length = S.N.length) := Lib.hid (by rw [HLI.out.lf, HLI.out.ln])
          have hby := HLI.out.sm HM12.out hy
          have c0 : wj.cell? ⟨g, j, none⟩ = some (.int .i64 x) := HTj.out.cF (by rw [relFk_at (by rw [HLI.out.lf]; exact hjn)]; exact HX.out)
          have c1 : wj.cell? ⟨h, j, none⟩ = some (.int .i64 y) := HTj.out.cN (by rw [relNk_at (by rw [HLI.out.lf]; exact hjn) HLL.out]; exact HY.out)
          have f0 : wj.frozen? ⟨g, j, none⟩ = false := HTj.out.zF j
          have f1 : (wj.setCell ⟨g, j, none⟩ (.int .i64 fb)).frozen? ⟨h, j, none⟩ = false := (HTj.out.setF j fb).zN j
          have c2 : (wj.setCell ⟨g, j, none⟩ (.int .i64 fb)).cell? ⟨h, j, none⟩ = some (.int .i64 y) := (HTj.out.setF j fb).cN (by rw [relNk_at (by rw [HLI.out.lf]; exact hjn) HLL.out]; exact HY.out)
          have j0 : (0 : Int) ≤ (j : Nat) := by omega
          have j1 : ((j : Nat) : Int) < (n : Nat) := by omega
          have iy : IntKind.i64.wrap (y + (-sh)) = y + (-sh) := IntWalk.i64_in _ (by omega)
          clear hx hy
          by_cases hxg : x = fa
          · have dx : (x == fa) = true := beq_iff_eq.2 hxg
            have HF2 : Hid ((relFk S.F fa fb j).set j fb = relFk S.F fa fb (j + 1)) := Lib.hid (relFk_yes (by rw [HX.out, hxg]))
            have HN2 : Hid ((relNk S.F S.N fa (-sh) j).set j (y + (-sh)) = relNk S.F S.N fa (-sh) (j + 1)) := Lib.hid (relNk_yes HLL.out (by rw [HX.out, hxg]) HY.out)
            have HT2 := Lib.hid ((HTj.out.setF j fb).setN j (y + (-sh)))
            rw [HF2.out, HN2.out] at HT2
            clear hxg
            go_wp2_with fail
            go_roundw
            case rel => exact ⟨j + 1, by omega, by go_num, HT2⟩
            case measure => simp [intOf]; omega
          · have dx : (x == fa) = false := beq_eq_false_iff_ne.2 hxg
            have HF2 := Lib.hid (relFk_no (k := fb) HX.out hxg)
            have HN2 := Lib.hid (relNk_no (s := (-sh)) HLL.out HX.out hxg HY.out)
            clear hxg
            go_wp2_with fail
            go_roundw
            case rel => exact ⟨j + 1, by omega, by go_num, Lib.hid (by rw [HF2.out, HN2.out]; exact HTj.out)⟩
            case measure => simp [intOf]; omega
        · obtain rfl : n = j := by omega
          have HT2 := HTj.out
          rw [relFk_all HLI.out.lf, relNk_all HLI.out.lf HLI.out.ln] at HT2
          have HT3 := Lib.hid HT2
          clear HT2
          skip
          go_wp2_with fail
          go_roundw
          case rel => exact ⟨k + 1, by omega, by go_num, by rw [HST.out], Lib.hid (by rw [HST.out]; exact HT3.out)⟩
          case measure => simp [intOf]; omega
    · have dlt : decide (fb < fa) = false := decide_eq_false hlt2
      have HST : Hid (lkJ n (ls.take (k + 1)) = ⟨relF S.F fb fa, relN S.F S.N fb sh, S.ok⟩) := Lib.hid (by rw [HSE.out, if_neg hfe, if_neg hlt2])
      clear hfe hlt2 HSE
      obtain ⟨so, hso⟩ : ∃ z, S.ok = z := ⟨_, rfl⟩
      rw [hso] at HST ⊢
      clear hso
      go_wp2_with fail
      go_loopw [78] (fun i wr => ∃ j : Nat, j ≤ n ∧ i = .int .i64 j ∧ Hid (TwoR B w wr g h n n n (relFk S.F fb fa j) (relNk S.F S.N fb sh j))) (fun i _ => n - (intOf i).toNat)
      case atStart => exact ⟨0, Nat.zero_le _, rfl, Lib.hid (by rw [relFk_zero, relNk_zero]; exact HTq.out)⟩
      case round =>
        obtain ⟨j, hj, rfl, HTj⟩ := hrel
        obtain ⟨wj, hwj⟩ : ∃ wx, wx = wr := ⟨_, rfl⟩
        subst hwj
        by_cases hjn : j < n
        · obtain ⟨x, hx⟩ : ∃ z, S.F[j]? = some z := ⟨_, List.getElem?_eq_getElem (by rw [HLI.out.lf]; exact hjn)⟩
          obtain ⟨y, hy⟩ : ∃ z, S.N[j]? = some z := ⟨_, List.getElem?_eq_getElem (by rw [HLI.out.ln]; exact hjn)⟩
          have HX := Lib.hid hx
          have HY := Lib.hid hy
          have HLL : Hid (S.F.length = S.N.length) := Lib.hid (by rw [HLI.out.lf, HLI.out.ln])
          have hby := HLI.out.sm HM12.out hy
          have c0 : wj.cell? ⟨g, j, none⟩ = some (.int .i64 x) := HTj.out.cF (by rw [relFk_at (by rw [HLI.out.lf]; exact hjn)]; exact HX.out)
          have c1 : wj.cell? ⟨h, j, none⟩ = some (.int .i64 y) := HTj.out.cN (by rw [relNk_at (by rw [HLI.out.lf]; exact hjn) HLL.out]; exact HY.out)
          have f0 : wj.frozen? ⟨g, j, none⟩ = false := HTj.out.zF j
          have f1 : (wj.setCell ⟨g, j, none⟩ (.int .i64 fa)).frozen? ⟨h, j, none⟩ = false := (HTj.out.setF j fa).zN j
          have c2 : (wj.setCell ⟨g, j, none⟩ (.int .i64 fa)).cell? ⟨h, j, none⟩ = some (.int .i64 y) := (HTj.out.setF j fa).cN (by rw [relNk_at (by rw [HLI.out.lf]; exact hjn) HLL.out]; exact HY.out)
          have j0 : (0 : Int) ≤ (j : Nat) := by omega
          have j1 : ((j : Nat) : Int) < (n : Nat) := by omega
          have iy : IntKind.i64.wrap (y + sh) = y + sh := IntWalk.i64_in _ (by omega)
          clear hx hy
          by_cases hxg : x = fb
          · have dx : (x == fb) = true := beq_iff_eq.2 hxg
            have HF2 : Hid ((relFk S.F fb fa j).set j fa = relFk S.F fb fa (j + 1)) := Lib.hid (relFk_yes (by rw [HX.out, hxg]))
            have HN2 : Hid ((relNk S.F S.N fb sh j).set j (y + sh) = relNk S.F S.N fb sh (j + 1)) := Lib.hid (relNk_yes HLL.out (by rw [HX.out, hxg]) HY.out)
            have HT2 := Lib.hid ((HTj.out.setF j fa).setN j (y + sh))
            rw [HF2.out, HN2.out] at HT2
            clear hxg
            go_wp2_with fail
            go_roundw
            case rel => exact ⟨j + 1, by omega, by go_num, HT2⟩
            case measure => simp [intOf]; omega
          · have dx : (x == fb) = false := beq_eq_false_iff_ne.2 hxg
            have HF2 := Lib.hid (relFk_no (k := fa) HX.out hxg)
            have HN2 := Lib.hid (relNk_no (s := sh) HLL.out HX.out hxg HY.out)
            clear hxg
            go_wp2_with fail
            go_roundw
            case rel => exact ⟨j + 1, by omega, by go_num, Lib.hid (by rw [HF2.out, HN2.out]; exact HTj.out)⟩
            case measure => simp [intOf]; omega
        · obtain rfl : n = j := by omega
          have HT2 := HTj.out
          rw [relFk_all HLI.out.lf, relNk_all HLI.out.lf HLI.out.ln] at HT2
          have HT3 := Lib.hid HT2
          clear HT2
          skip
          go_wp2_with fail
          go_roundw
          case rel => exact ⟨k + 1, by omega, by go_num, by rw [HST.out], Lib.hid (by rw [HST.out]; exact HT3.out)⟩
          case measure => simp [intOf]; omega
open Go.RowKit
set_option maxRecDepth 100000
set_option linter.unusedVariables false
set_option linter.unusedSimpArgs false
/-- the reference's state: a box of both rows and a truth value -/
structure PJ (B : Nat) (w0 w : World) (g h bp n cf cn : Nat) (S : LkS) : Prop where
  t : TwoR B w0 w g h n cf cn S.F S.N
  c : CAt w bp #[.slice (some ⟨g, 0, none⟩) n cf, .slice (some ⟨h, 0, none⟩) n cn, .bool S.ok] 71
  ng : bp ≠ g
  nh : bp ≠ h
  bB : B ≤ bp
section
variable {B : Nat} {w0 w : World} {g h bp n cf cn : Nat} {S : LkS}
theorem PJ.below {w' : World} (p : PJ B w0 w g h bp n cf cn S) (hb : Below w.heap.size w w') (hs : B ≤ w.heap.size) : PJ B w0 w' g h bp n cf cn S :=
  ⟨p.t.below hb hs, p.c.below hb, p.ng, p.nh, p.bB⟩
theorem PJ.setF (p : PJ B w0 w g h bp n cf cn S) (i : Nat) (x : Int) : PJ B w0 (w.setCell ⟨g, i, none⟩ (.int .i64 x)) g h bp n cf cn ⟨S.F.set i x, S.N, S.ok⟩ :=
  ⟨p.t.setF i x, p.c.setNe p.ng i _, p.ng, p.nh, p.bB⟩
theorem PJ.setN (p : PJ B w0 w g h bp n cf cn S) (i : Nat) (x : Int) : PJ B w0 (w.setCell ⟨h, i, none⟩ (.int .i64 x)) g h bp n cf cn ⟨S.F, S.N.set i x, S.ok⟩ :=
  ⟨p.t.setN i x, p.c.setNe p.nh i _, p.ng, p.nh, p.bB⟩
theorem PJ.setOk (p : PJ B w0 w g h bp n cf cn S) (b : Bool) : PJ B w0 (w.setCell ⟨bp, 2, none⟩ (.bool b)) g h bp n cf cn ⟨S.F, S.N, b⟩ :=
  ⟨⟨p.t.f.setO2 (fun e => p.ng e.symm) 2 _, p.t.s.setO2 (fun e => p.nh e.symm) 2 _, p.t.ne, p.t.gB, p.t.hB, p.t.b.setCell (p := ⟨bp, 2, none⟩) p.bB _⟩, p.c.set 2 _, p.ng, p.nh, p.bB⟩
end
set_option maxHeartbeats 8000000 in
theorem add_any (B : Nat) (w0 w : World) (g h bp n cf cn : Nat) (S : LkS) (ls : List Lnk) (l : Lnk) (h10 : n ≤ 10) (hm : ls.length ≤ 12) (hBsz0 : B ≤ w0.heap.size) (hli : LkI n ls S) (hl : LkOk n l) (hp : PJ B w0 w g h bp n cf cn S) :
    Calls Try.prog 61 #[.pointer (some ⟨bp, 0, none⟩), .agg #[.int .i64 l.a, .int .i64 l.b, .int .i64 l.diff]] w fun e w' => e = .returned (.tuple #[]) ∧ PJ B w0 w' g h bp n cf cn (lkStep S l) := by
  have HLI := Lib.hid hli
  have HM12 := Lib.hid hm
  obtain ⟨q0, q1, q2, q3, q4⟩ := hl
  have hBsz := hBsz0
  obtain ⟨fa, hfa⟩ : ∃ z, S.F[l.a.toNat]? = some z := ⟨_, List.getElem?_eq_getElem (by rw [HLI.out.lf]; omega)⟩
  obtain ⟨fb, hfb⟩ : ∃ z, S.F[l.b.toNat]? = some z := ⟨_, List.getElem?_eq_getElem (by rw [HLI.out.lf]; omega)⟩
  obtain ⟨na, hna⟩ : ∃ z, S.N[l.a.toNat]? = some z := ⟨_, List.getElem?_eq_getElem (by rw [HLI.out.ln]; omega)⟩
  obtain ⟨nb, hnb⟩ : ∃ z, S.N[l.b.toNat]? = some z := ⟨_, List.getElem?_eq_getElem (by rw [HLI.out.ln]; omega)⟩
  have HSE : Hid (lkStep S l = _) := Lib.hid (lkStep_eq hfa hfb hna hnb)
  have hba := HLI.out.sm HM12.out hna
  have hbb := HLI.out.sm HM12.out hnb
  have hbx : Below w.heap.size w (w.alloc (.cells #[.int .i64 l.a, .int .i64 l.b, .int .i64 l.diff] 75)) := (Below.refl _ _).alloc (Nat.le_refl _) _
  have hPB := hp.below hbx (Nat.le_trans hBsz hp.t.b.size)
  have hCX := CAt.new w #[.int .i64 l.a, .int .i64 l.b, .int .i64 l.diff] 75
  obtain ⟨wB, hwB⟩ : ∃ wx, w.alloc (.cells #[.int .i64 l.a, .int .i64 l.b, .int .i64 l.diff] 75) = wx := ⟨_, rfl⟩
  obtain ⟨gl, hgl⟩ : ∃ gx, w.heap.size = gx := ⟨_, rfl⟩
  rw [hwB] at hPB hCX
  rw [hgl] at hCX
  have hglb : gl ≠ bp := by have h9 := hp.c.lt; omega
  have HWB := Lib.hid hwB
  have HGL := Lib.hid hgl
  have HPB := Lib.hid hPB
  have HCB := Lib.hid hCX
  have HFA := Lib.hid hfa
  have HFB := Lib.hid hfb
  have HNA := Lib.hid hna
  have HNB := Lib.hid hnb
  have a1 : l.a < (n : Int) := by omega
  have b0 : (0 : Int) ≤ l.b := by omega
  clear hPB hCX hwB hgl hbx hfa hfb hna hnb hm hli hp
  go_enter Try.func61, Try.ntmps61
  go_upto_region 1 with (fail)
  rw [HWB.out, HGL.out]
  clear HWB HGL
  have y0 : wB.cell? ⟨gl, 0, none⟩ = some (.int .i64 l.a) := HCB.out.cell 0
  have y1 : wB.cell? ⟨gl, 1, none⟩ = some (.int .i64 l.b) := HCB.out.cell 1
  have y2 : wB.cell? ⟨gl, 2, none⟩ = some (.int .i64 l.diff) := HCB.out.cell 2
  have p0 : wB.cell? ⟨bp, 0, none⟩ = some (.slice (some ⟨g, 0, none⟩) n cf) := HPB.out.c.cell 0
  have p1 : wB.cell? ⟨bp, 1, none⟩ = some (.slice (some ⟨h, 0, none⟩) n cn) := HPB.out.c.cell 1
  have p2 : wB.cell? ⟨bp, 2, none⟩ = some (.bool S.ok) := HPB.out.c.cell 2
  have r0 : wB.cell? ⟨g, l.a.toNat, none⟩ = some (.int .i64 fa) := HPB.out.t.cF HFA.out
  have r1 : wB.cell? ⟨g, l.b.toNat, none⟩ = some (.int .i64 fb) := HPB.out.t.cF HFB.out
  have r2 : wB.cell? ⟨h, l.a.toNat, none⟩ = some (.int .i64 na) := HPB.out.t.cN HNA.out
  have r3 : wB.cell? ⟨h, l.b.toNat, none⟩ = some (.int .i64 nb) := HPB.out.t.cN HNB.out
  go_wp2_with fail
  go_quiet (fail)
  clear y0 y1 y2 p0 p1 p2 r0 r1 r2 r3
  have hbq := below_drewN (Below.refl wB.heap.size wB) nq
  have hPq := HPB.out.below hbq (Nat.le_trans hBsz HPB.out.t.b.size)
  have hCq := HCB.out.below hbq
  obtain ⟨wC, hwq⟩ : ∃ wx, wB.drewN nq = wx := ⟨_, rfl⟩
  rw [hwq] at hPq hCq ⊢
  have HPwC := Lib.hid hPq
  have HCwC := Lib.hid hCq
  clear hPq hCq hwq hbq
  go_upto_region 2 with (fail)
  have y0 : wC.cell? ⟨gl, 0, none⟩ = some (.int .i64 l.a) := HCwC.out.cell 0
  have y1 : wC.cell? ⟨gl, 1, none⟩ = some (.int .i64 l.b) := HCwC.out.cell 1
  have y2 : wC.cell? ⟨gl, 2, none⟩ = some (.int .i64 l.diff) := HCwC.out.cell 2
  have p0 : wC.cell? ⟨bp, 0, none⟩ = some (.slice (some ⟨g, 0, none⟩) n cf) := HPwC.out.c.cell 0
  have p1 : wC.cell? ⟨bp, 1, none⟩ = some (.slice (some ⟨h, 0, none⟩) n cn) := HPwC.out.c.cell 1
  have p2 : wC.cell? ⟨bp, 2, none⟩ = some (.bool S.ok) := HPwC.out.c.cell 2
  have r0 : wC.cell? ⟨g, l.a.toNat, none⟩ = some (.int .i64 fa) := HPwC.out.t.cF HFA.out
  have r1 : wC.cell? ⟨g, l.b.toNat, none⟩ = some (.int .i64 fb) := HPwC.out.t.cF HFB.out
  have r2 : wC.cell? ⟨h, l.a.toNat, none⟩ = some (.int .i64 na) := HPwC.out.t.cN HNA.out
  have r3 : wC.cell? ⟨h, l.b.toNat, none⟩ = some (.int .i64 nb) := HPwC.out.t.cN HNB.out
  go_wp2_with fail
  go_quiet (fail)
  clear y0 y1 y2 p0 p1 p2 r0 r1 r2 r3
  have hbq := below_drewN (Below.refl wC.heap.size wC) nq
  have hPq := HPwC.out.below hbq (Nat.le_trans hBsz HPwC.out.t.b.size)
  have hCq := HCwC.out.below hbq
  obtain ⟨wD, hwq⟩ : ∃ wx, wC.drewN nq = wx := ⟨_, rfl⟩
  rw [hwq] at hPq hCq ⊢
  have HPwD := Lib.hid hPq
  have HCwD := Lib.hid hCq
  clear hPq hCq hwq hbq
  by_cases hfe : fa = fb
  · have dfe : (fa == fb) = true := beq_iff_eq.2 hfe
    have HSF : Hid (lkStep S l = ⟨S.F, S.N, S.ok && decide (na + l.diff - nb = 0)⟩) := Lib.hid (by rw [HSE.out, if_pos hfe])
    clear hfe HSE
    go_upto_region 4 with (fail)
    have y0 : wD.cell? ⟨gl, 0, none⟩ = some (.int .i64 l.a) := HCwD.out.cell 0
    have y1 : wD.cell? ⟨gl, 1, none⟩ = some (.int .i64 l.b) := HCwD.out.cell 1
    have y2 : wD.cell? ⟨gl, 2, none⟩ = some (.int .i64 l.diff) := HCwD.out.cell 2
    have p0 : wD.cell? ⟨bp, 0, none⟩ = some (.slice (some ⟨g, 0, none⟩) n cf) := HPwD.out.c.cell 0
    have p1 : wD.cell? ⟨bp, 1, none⟩ = some (.slice (some ⟨h, 0, none⟩) n cn) := HPwD.out.c.cell 1
    have p2 : wD.cell? ⟨bp, 2, none⟩ = some (.bool S.ok) := HPwD.out.c.cell 2
    have r0 : wD.cell? ⟨g, l.a.toNat, none⟩ = some (.int .i64 fa) := HPwD.out.t.cF HFA.out
    have r1 : wD.cell? ⟨g, l.b.toNat, none⟩ = some (.int .i64 fb) := HPwD.out.t.cF HFB.out
    have r2 : wD.cell? ⟨h, l.a.toNat, none⟩ = some (.int .i64 na) := HPwD.out.t.cN HNA.out
    have r3 : wD.cell? ⟨h, l.b.toNat, none⟩ = some (.int .i64 nb) := HPwD.out.t.cN HNB.out
    have i1 : IntKind.i64.wrap (nb - na) = nb - na := IntWalk.i64_in _ (by omega)
    have f2 : wD.frozen? ⟨bp, 2, none⟩ = false := HPwD.out.c.free 2
    cases hSo : S.ok with
    | true =>
      have HSO := Lib.hid hSo
      rw [hSo] at p2
      clear hSo
      obtain ⟨ve, hve⟩ : ∃ z, (nb - na == l.diff) = z := ⟨_, rfl⟩
      have HVE : Hid (lkStep S l = ⟨S.F, S.N, ve⟩) := Lib.hid (by
        rw [HSF.out, HSO.out, Bool.true_and, ← hve]
        congr 1
        rw [Bool.eq_iff_iff, decide_eq_true_iff, beq_iff_eq]; omega)
      go_wp2_with fail
      go_big_region
      have HP8 := Lib.hid ((HPwD.out.setOk ve).below (Below.refl _ _).drew (by have h9 := (HPwD.out.setOk ve).t.b.size; omega))
      go_wp2_with fail
      refine bodyPost_ret (results_none rfl _ _ _) rfl ?_
      exact ⟨by first | rfl | trivial, by rw [HVE.out]; exact HP8.out⟩
    | false =>
      have HSO := Lib.hid hSo
      rw [hSo] at p2
      clear hSo
      have HVE : Hid (lkStep S l = ⟨S.F, S.N, false⟩) := Lib.hid (by rw [HSF.out, HSO.out, Bool.false_and])
      go_wp2_with fail
      go_big_region
      have HP8 := Lib.hid ((HPwD.out.setOk false).below (Below.refl _ _).drew (by have h9 := (HPwD.out.setOk false).t.b.size; omega))
      go_wp2_with fail
      refine bodyPost_ret (results_none rfl _ _ _) rfl ?_
      exact ⟨by first | rfl | trivial, by rw [HVE.out]; exact HP8.out⟩
  have dfe : (fa == fb) = false := beq_eq_false_iff_ne.2 hfe
  go_upto_region 5 with (fail)
  have y0 : wD.cell? ⟨gl, 0, none⟩ = some (.int .i64 l.a) := HCwD.out.cell 0
  have y1 : wD.cell? ⟨gl, 1, none⟩ = some (.int .i64 l.b) := HCwD.out.cell 1
  have y2 : wD.cell? ⟨gl, 2, none⟩ = some (.int .i64 l.diff) := HCwD.out.cell 2
  have p0 : wD.cell? ⟨bp, 0, none⟩ = some (.slice (some ⟨g, 0, none⟩) n cf) := HPwD.out.c.cell 0
  have p1 : wD.cell? ⟨bp, 1, none⟩ = some (.slice (some ⟨h, 0, none⟩) n cn) := HPwD.out.c.cell 1
  have p2 : wD.cell? ⟨bp, 2, none⟩ = some (.bool S.ok) := HPwD.out.c.cell 2
  have r0 : wD.cell? ⟨g, l.a.toNat, none⟩ = some (.int .i64 fa) := HPwD.out.t.cF HFA.out
  have r1 : wD.cell? ⟨g, l.b.toNat, none⟩ = some (.int .i64 fb) := HPwD.out.t.cF HFB.out
  have r2 : wD.cell? ⟨h, l.a.toNat, none⟩ = some (.int .i64 na) := HPwD.out.t.cN HNA.out
  have r3 : wD.cell? ⟨h, l.b.toNat, none⟩ = some (.int .i64 nb) := HPwD.out.t.cN HNB.out
  have i1 : IntKind.i64.wrap (na + l.diff) = na + l.diff := IntWalk.i64_in _ (by omega)
  have i2 : IntKind.i64.wrap (na + l.diff - nb) = na + l.diff - nb := IntWalk.i64_in _ (by omega)
  go_wp2_with fail
  go_quiet (fail)
  clear y0 y1 y2 p0 p1 p2 r0 r1 r2 r3
  have hbq := below_drewN (Below.refl wD.heap.size wD) nq
  have hPq := HPwD.out.below hbq (Nat.le_trans hBsz HPwD.out.t.b.size)
  have hCq := HCwD.out.below hbq
  obtain ⟨wE, hwq⟩ : ∃ wx, wD.drewN nq = wx := ⟨_, rfl⟩
  rw [hwq] at hPq hCq ⊢
  have HPwE := Lib.hid hPq
  have HCwE := Lib.hid hCq
  clear hPq hCq hwq hbq
  have HPq := HPwE
  clear HPwE HCwE HPwD HCwD HPwC HCwC HPB HCB
  obtain ⟨sh, hsh⟩ : ∃ z, na + l.diff - nb = z := ⟨_, rfl⟩
  rw [hsh] at HSE ⊢
  have hshb : -5000000000 ≤ sh ∧ sh ≤ 5000000000 := by omega
  clear hsh i1 i2
  by_cases hlt2 : fb < fa
  · have dlt : decide (fb < fa) = true := decide_eq_true hlt2
    have ish : IntKind.i64.wrap (-sh) = -sh := IntWalk.i64_in _ (by omega)
    have HST : Hid (lkStep S l = ⟨relF S.F fa fb, relN S.F S.N fa (-sh), S.ok⟩) := Lib.hid (by rw [HSE.out, if_neg hfe, if_pos hlt2])
    clear hfe hlt2 HSE
    go_wp2_with fail
    go_loopw [9] (fun i wr => ∃ j : Nat, j ≤ n ∧ i = .int .i64 j ∧ Hid (PJ B w0 wr g h bp n cf cn ⟨relFk S.F fa fb j, relNk S.F S.N fa (-sh) j, S.ok⟩)) (fun i _ => n - (intOf i).toNat)
    case atStart => exact ⟨0, Nat.zero_le _, rfl, Lib.hid (by rw [relFk_zero, relNk_zero]; exact HPq.out)⟩
    case round =>
      obtain ⟨j, hj, rfl, HPj⟩ := hrel
      obtain ⟨wj, hwj⟩ : ∃ wx, wx = wr := ⟨_, rfl⟩
      subst hwj
      have p0 : wj.cell? ⟨bp, 0, none⟩ = some (.slice (some ⟨g, 0, none⟩) n cf) := HPj.out.c.cell 0
      have p1 : wj.cell? ⟨bp, 1, none⟩ = some (.slice (some ⟨h, 0, none⟩) n cn) := HPj.out.c.cell 1
      by_cases hjn : j < n
      · obtain ⟨x, hx⟩ : ∃ z, S.F[j]? = some z := ⟨_, List.getElem?_eq_getElem (by rw [HLI.out.lf]; exact hjn)⟩
        obtain ⟨y, hy⟩ : ∃ z, S.N[j]? = some z := ⟨_, List.getElem?_eq_getElem (by rw [HLI.out.ln]; exact hjn)⟩
        have HX := Lib.hid hx
        have HY := Lib.hid hy
        have HLL : Hid (S.F.length = S.N.length) := Lib.hid (by rw [HLI.out.lf, HLI.out.ln])
        have hby := HLI.out.sm HM12.out hy
        have c0 : wj.cell? ⟨g, j, none⟩ = some (.int .i64 x) := HPj.out.t.cF (by rw [relFk_at (by rw [HLI.out.lf]; exact hjn)]; exact HX.out)
        have c1 : wj.cell? ⟨h, j, none⟩ = some (.int .i64 y) := HPj.out.t.cN (by rw [relNk_at (by rw [HLI.out.lf]; exact hjn) HLL.out]; exact HY.out)
        have f0 : wj.frozen? ⟨g, j, none⟩ = false := HPj.out.t.zF j
        have HP1 := Lib.hid (HPj.out.setF j fb)
        have f1 : (wj.setCell ⟨g, j, none⟩ (.int .i64 fb)).frozen? ⟨h, j, none⟩ = false := HP1.out.t.zN j
        have c2 : (wj.setCell ⟨g, j, none⟩ (.int .i64 fb)).cell? ⟨h, j, none⟩ = some (.int .i64 y) := HP1.out.t.cN (by dsimp only; rw [relNk_at (by rw [HLI.out.lf]; exact hjn) HLL.out]; exact HY.out)
        have c3 : (wj.setCell ⟨g, j, none⟩ (.int .i64 fb)).cell? ⟨bp, 1, none⟩ = some (.slice (some ⟨h, 0, none⟩) n cn) := HP1.out.c.cell 1
        have j0 : (0 : Int) ≤ (j : Nat) := by omega
        have j1 : ((j : Nat) : Int) < (n : Nat) := by omega
        have iy : IntKind.i64.wrap (y + (-sh)) = y + (-sh) := IntWalk.i64_in _ (by omega)
        clear hx hy
        by_cases hxg : x = fa
        · have dx : (x == fa) = true := beq_iff_eq.2 hxg
          have HF2 : Hid ((relFk S.F fa fb j).set j fb = relFk S.F fa fb (j + 1)) := Lib.hid (relFk_yes (by rw [HX.out, hxg]))
          have HN2 : Hid ((relNk S.F S.N fa (-sh) j).set j (y + (-sh)) = relNk S.F S.N fa (-sh) (j + 1)) := Lib.hid (relNk_yes HLL.out (by rw [HX.out, hxg]) HY.out)
          have HP2 := Lib.hid (HP1.out.setN j (y + (-sh)))
          dsimp only at HP2
          rw [HF2.out, HN2.out] at HP2
          clear hxg
          go_wp2_with fail
          go_roundw
          case rel => exact ⟨j + 1, by omega, by go_num, HP2⟩
          case measure => simp [intOf]; omega
        · have dx : (x == fa) = false := beq_eq_false_iff_ne.2 hxg
          have HF2 := Lib.hid (relFk_no (k := fb) HX.out hxg)
          have HN2 := Lib.hid (relNk_no (s := (-sh)) HLL.out HX.out hxg HY.out)
          clear hxg
          go_wp2_with fail
          go_roundw
          case rel => exact ⟨j + 1, by omega, by go_num, Lib.hid (by rw [HF2.out, HN2.out]; exact HPj.out)⟩
          case measure => simp [intOf]; omega
      · obtain rfl : n = j := by omega
        have HP2 := HPj.out
        rw [relFk_all HLI.out.lf, relNk_all HLI.out.lf HLI.out.ln] at HP2
        have HP3 := Lib.hid HP2
        clear HP2
        go_wp2_with fail
        go_end0
        exact ⟨by first | rfl | trivial, by rw [HST.out]; exact HP3.out⟩
  · have dlt : decide (fb < fa) = false := decide_eq_false hlt2
    have HST : Hid (lkStep S l = ⟨relF S.F fb fa, relN S.F S.N fb sh, S.ok⟩) := Lib.hid (by rw [HSE.out, if_neg hfe, if_neg hlt2])
    clear hfe hlt2 HSE
    go_wp2_with fail
    go_loopw [9] (fun i wr => ∃ j : Nat, j ≤ n ∧ i = .int .i64 j ∧ Hid (PJ B w0 wr g h bp n cf cn ⟨relFk S.F fb fa j, relNk S.F S.N fb sh j, S.ok⟩)) (fun i _ => n - (intOf i).toNat)
    case atStart => exact ⟨0, Nat.zero_le _, rfl, Lib.hid (by rw [relFk_zero, relNk_zero]; exact HPq.out)⟩
    case round =>
      obtain ⟨j, hj, rfl, HPj⟩ := hrel
      obtain ⟨wj, hwj⟩ : ∃ wx, wx = wr := ⟨_, rfl⟩
      subst hwj
      have p0 : wj.cell? ⟨bp, 0, none⟩ = some (.slice (some ⟨g, 0, none⟩) n cf) := HPj.out.c.cell 0
      have p1 : wj.cell? ⟨bp, 1, none⟩ = some (.slice (some ⟨h, 0, none⟩) n cn) := HPj.out.c.cell 1
      by_cases hjn : j < n
      · obtain ⟨x, hx⟩ : ∃ z, S.F[j]? = some z := ⟨_, List.getElem?_eq_getElem (by rw [HLI.out.lf]; exact hjn)⟩
        obtain ⟨y, hy⟩ : ∃ z, S.N[j]? = some z := ⟨_, List.getElem?_eq_getElem (by rw [HLI.out.ln]; exact hjn)⟩
        have HX := Lib.hid hx
        have HY := Lib.hid hy
        have HLL : Hid (S.F.length = S.N.length) := Lib.hid (by rw [HLI.out.lf, HLI.out.ln])
        have hby := HLI.out.sm HM12.out hy
        have c0 : wj.cell? ⟨g, j, none⟩ = some (.int .i64 x) := HPj.out.t.cF (by rw [relFk_at (by rw [HLI.out.lf]; exact hjn)]; exact HX.out)
        have c1 : wj.cell? ⟨h, j, none⟩ = some (.int .i64 y) := HPj.out.t.cN (by rw [relNk_at (by rw [HLI.out.lf]; exact hjn) HLL.out]; exact HY.out)
        have f0 : wj.frozen? ⟨g, j, none⟩ = false := HPj.out.t.zF j
        have HP1 := Lib.hid (HPj.out.setF j fa)
        have f1 : (wj.setCell ⟨g, j, none⟩ (.int .i64 fa)).frozen? ⟨h, j, none⟩ = false := HP1.out.t.zN j
        have c2 : (wj.setCell ⟨g, j, none⟩ (.int .i64 fa)).cell? ⟨h, j, none⟩ = some (.int .i64 y) := HP1.out.t.cN (by dsimp only; rw [relNk_at (by rw [HLI.out.lf]; exact hjn) HLL.out]; exact HY.out)
        have c3 : (wj.setCell ⟨g, j, none⟩ (.int .i64 fa)).cell? ⟨bp, 1, none⟩ = some (.slice (some ⟨h, 0, none⟩) n cn) := HP1.out.c.cell 1
        have j0 : (0 : Int) ≤ (j : Nat) := by omega
        have j1 : ((j : Nat) : Int) < (n : Nat) := by omega
        have iy : IntKind.i64.wrap (y + sh) = y + sh := IntWalk.i64_in _ (by omega)
        clear hx hy
        by_cases hxg : x = fb
        · have dx : (x == fb) = true := beq_iff_eq.2 hxg
          have HF2 : Hid ((relFk S.F fb fa j).set j fa = relFk S.F fb fa (j + 1)) := Lib.hid (relFk_yes (by rw [HX.out, hxg]))
          have HN2 : Hid ((relNk S.F S.N fb sh j).set j (y + sh) = relNk S.F S.N fb sh (j + 1)) := Lib.hid (relNk_yes HLL.out (by rw [HX.out, hxg]) HY.out)
          have HP2 := Lib.hid (HP1.out.setN j (y + sh))
          dsimp only at HP2
          rw [HF2.out, HN2.out] at HP2
          clear hxg
          go_wp2_with fail
          go_roundw
          case rel => exact ⟨j + 1, by omega, by go_num, HP2⟩
          case measure => simp [intOf]; omega
        · have dx : (x == fb) = false := beq_eq_false_iff_ne.2 hxg
          have HF2 := Lib.hid (relFk_no (k := fa) HX.out hxg)
          have HN2 := Lib.hid (relNk_no (s := sh) HLL.out HX.out hxg HY.out)
          clear hxg
          go_wp2_with fail
          go_roundw
          case rel => exact ⟨j + 1, by omega, by go_num, Lib.hid (by rw [HF2.out, HN2.out]; exact HPj.out)⟩
          case measure => simp [intOf]; omega
      · obtain rfl : n = j := by omega
        have HP2 := HPj.out
        rw [relFk_all HLI.out.lf, relNk_all HLI.out.lf HLI.out.ln] at HP2
        have HP3 := Lib.hid HP2
        clear HP2
        go_wp2_with fail
        go_end0
        exact ⟨by first | rfl | trivial, by rw [HST.out]; exact HP3.out⟩
open Go.RowKit
set_option maxRecDepth 100000
set_option linter.unusedVariables false
set_option linter.unusedSimpArgs false
theorem infoL3 : (Try.prog.info? 2).map (fun i => (i.zero, i.size, i.bytes)) = some (some (.int .i64 0), 1, 8) := by kernel_rfl
/-- the reference's state while its rows are made -/
structure JI (B : Nat) (w0 w : World) (h bp n k : Nat) (v : Value) : Prop where
  o : Ow eI 1 w B 2 v k ((List.range k).map fun (i : Nat) => (i : Int))
  s : Ow eI 1 w B 2 (.slice (some ⟨h, 0, none⟩) n n) n (List.replicate n 0)
  c : CAt w bp #[v, .slice (some ⟨h, 0, none⟩) n n, .bool true] 71
  nv : v.ownBlock ≠ some h
  nb : v.ownBlock ≠ some bp
  hb : bp ≠ h
  hB : B ≤ h
  bB : B ≤ bp
  b : Below B w0 w
theorem JI.app {B : Nat} {w0 w w' : World} {h bp n k : Nat} {v : Value} (p : JI B w0 w h bp n k v) {g' c' : Nat} {ys : List Int} (hB : B ≤ w.heap.size)
    (ho : Ow eI 1 w' B 2 (.slice (some ⟨g', 0, none⟩) (k + 1) c') (k + 1) ys) (hys : ys = (List.range (k + 1)).map fun (i : Nat) => (i : Int)) (hb : Below B w w') (hl : v.ownBlock = some g' ∨ w.heap.size ≤ g') (hk : ∀ b, b < w.heap.size → v.ownBlock ≠ some b → w'.heap[b]? = w.heap[b]?) :
    CAt w' bp #[v, .slice (some ⟨h, 0, none⟩) n n, .bool true] 71 ∧ JI B w0 (w'.setCell ⟨bp, 0, none⟩ (.slice (some ⟨g', 0, none⟩) (k + 1) c')) h bp n (k + 1) (.slice (some ⟨g', 0, none⟩) (k + 1) c') := by
  subst hys
  have hs := (p.s.lt h rfl).2
  have hc := p.c.lt
  have e1 : g' ≠ h := fun e => by
    rcases hl with hl | hl
    · exact p.nv (by rw [hl, e])
    · omega
  have e2 : g' ≠ bp := fun e => by
    rcases hl with hl | hl
    · exact p.nb (by rw [hl, e])
    · omega
  have hC : CAt w' bp #[v, .slice (some ⟨h, 0, none⟩) n n, .bool true] 71 := (hk bp hc p.nb).trans p.c
  have hS : Ow eI 1 w' B 2 (.slice (some ⟨h, 0, none⟩) n n) n (List.replicate n 0) := p.s.same fun b hb2 => by
    have : h = b := by simpa [Value.ownBlock] using hb2
    subst this
    exact hk h hs p.nv
  refine ⟨hC, ho.setO2 e2 0 _, hS.setO2 (fun e => p.hb e.symm) 0 _, hC.set 0 _, by simpa [Value.ownBlock] using e1, by simpa [Value.ownBlock] using e2, p.hb, p.hB, p.bB, (p.b.trans hb).setCell (p := ⟨bp, 0, none⟩) p.bB _⟩
set_option maxHeartbeats 1000000 in
theorem l00Has_nil (x : Int) (w : World) : Calls Try.prog 54 #[.slice none 0 0, .int .i64 x] w fun e w' => e = .returned (.bool false) ∧ w = w' := by
  go_enter Try.func54, Try.ntmps54
  go_wp2_with fail
  go_loopw [5] (fun i wr => i = .int .i64 0 ∧ w = wr) (fun _ _ => 0)
  case atStart => exact ⟨rfl, rfl⟩
  case round =>
    obtain ⟨rfl, rfl⟩ := hrel
    go_wp2_with fail
    go_ret
    exact ⟨rfl, rfl⟩
set_option maxHeartbeats 8000000 in
theorem l20Join_any (n : Nat) (ls : List Lnk) (a : Option Addr) (m c : Nat) (w : World) (h1 : 1 ≤ n) (h10 : n ≤ 10) (hm : m ≤ 12) (hl : ls.length = m) (hok : ∀ l ∈ ls, LkOk n l) (hr : Rd Lnk.enc 3 w a ls) :
    Calls Try.prog 41 #[.int .i64 (n : Int), .slice a m c, .slice none 0 0] w fun e w' => ∃ g h bp cf, e = .returned (.pointer (some ⟨bp, 0, none⟩)) ∧ PJ w.heap.size w w' g h bp n cf n (lkJ n ls) := by
  have HL := Lib.hid hl
  have HO := Lib.hid hok
  have HR := Lib.hid hr
  obtain ⟨B, hB⟩ : ∃ B, w.heap.size = B := ⟨_, rfl⟩
  have HBW := Lib.hid hB
  have hBsz : B ≤ w.heap.size := by omega
  obtain ⟨zs, hzs⟩ : ∃ zs : List Int, List.replicate n (0 : Int) = zs := ⟨_, rfl⟩
  have HZ := Lib.hid hzs
  clear hl hok hr hzs
  go_enter Try.func41, Try.ntmps41
  rw [hB]
  clear hB
  go_wp2_with (at_make; refine wpl_make eI_len (by decide) _ rfl _ _ 34 rfl 2 (0 : Int) _ 8 rfl Try.underlying34 infoL3 .i64 .i64 _ _ n rfl rfl rfl rfl (by omega) (by unfold maxLen; omega) zs HZ ?_)
  intro w1 ho1 hb1 hs1
  have hJ : JI B w (w1.alloc (.cells #[.slice none 0 0, .slice (some ⟨B, 0, none⟩) n n, .bool true] 71)) B w1.heap.size n 0 (.slice none 0 0) := by
    have hbx : Below w1.heap.size w1 (w1.alloc (.cells #[.slice none 0 0, .slice (some ⟨B, 0, none⟩) n n, .bool true] 71)) := (Below.refl _ _).alloc (Nat.le_refl _) _
    rw [HBW.out, ← HZ.out] at ho1
    rw [HBW.out] at hb1 hs1
    exact ⟨Ow.nil _ _ _, ho1.below hbx, CAt.new _ _ _, by simp [Value.ownBlock], by simp [Value.ownBlock], by omega, Nat.le_refl _, by omega, hb1.trans (hbx.mono (by omega))⟩
  obtain ⟨w2, hw2⟩ : ∃ wx, w1.alloc (.cells #[.slice none 0 0, .slice (some ⟨B, 0, none⟩) n n, .bool true] 71) = wx := ⟨_, rfl⟩
  obtain ⟨bp, hbp⟩ : ∃ gx, w1.heap.size = gx := ⟨_, rfl⟩
  rw [hw2, hbp] at hJ
  have HW2 := Lib.hid hw2
  have HBP := Lib.hid hbp
  have HJ := Lib.hid hJ
  clear ho1 hb1 hs1 hJ hw2 hbp
  go_upto_region 2 with (fail)
  rw [HBW.out, HW2.out, HBP.out]
  clear HW2 HBP
  go_wp2_with fail
  go_loopw [8] (fun i wr => ∃ (k : Nat) (v : Value), k ≤ n ∧ i = .int .i64 k ∧ Hid (JI B w wr B bp n k v)) (fun i _ => n - (intOf i).toNat)
  case atStart => exact ⟨0, _, Nat.zero_le _, rfl, HJ⟩
  case round =>
  obtain ⟨k, v, hk, rfl, HJk⟩ := hrel
  obtain ⟨wA, hwA⟩ : ∃ wx, wx = wr := ⟨_, rfl⟩
  subst hwA
  by_cases hlt : k < n
  · have p0 : wA.cell? ⟨bp, 0, none⟩ = some v := HJk.out.c.cell 0
    have hsz : B ≤ wA.heap.size := Nat.le_trans hBsz HJk.out.b.size
    have h63 : k + 1 ≤ maxLen := by unfold maxLen; omega
    have hby : (k + 1) * 8 ≤ 140737488355328 := by omega
    obtain ⟨ys, hys⟩ : ∃ ys, ((List.range k).map fun (i : Nat) => (i : Int)) ++ [(k : Int)] = ys := ⟨_, rfl⟩
    have HYS := Lib.hid hys
    have HYR : Hid (ys = (List.range (k + 1)).map fun (i : Nat) => (i : Int)) := Lib.hid (by rw [← hys, List.range_succ, List.map_append]; rfl)
    clear hys
    go_wp2_with (at_builtin; refine wpl_appL eI_len (by decide) _ rfl (.tmp 23) (.tmp 25) 34 rfl 2 _ 8 rfl Try.underlying34 infoL3 B v k _ rfl wA _ _ rfl HJk.out.o (k : Int) rfl rfl (eI_one _) h63 hby hsz ys HYS ?_)
    intro g4 c4 w4 ho4 hb4 hl4 hk4
    obtain ⟨hC4, hJ4⟩ := HJk.out.app hsz ho4 HYR.out hb4 hl4 hk4
    have p4 : w4.cell? ⟨bp, 0, none⟩ = some v := hC4.cell 0
    have f4 : w4.frozen? ⟨bp, 0, none⟩ = false := hC4.free 0
    have HJ4 := Lib.hid hJ4
    clear ho4 hb4 hl4 hk4 hC4 hJ4 p0
    go_wp2_with fail
    go_roundw
    case rel => exact ⟨k + 1, _, by omega, by go_num, HJ4⟩
    case measure => simp [intOf]; omega
  obtain rfl : n = k := by omega
  obtain ⟨a', cf, hv⟩ := HJk.out.o.shape
  subst hv
  obtain ⟨g, rfl, hg0, hg1⟩ := HJk.out.o.at_ (by omega)
  have hPJ : PJ B w wA g B bp n cf n (lkJ n (ls.take 0)) := ⟨⟨HJk.out.o, HJk.out.s, by have h9 := HJk.out.nv; simpa [Value.ownBlock] using h9, hg0, Nat.le_refl _, HJk.out.b⟩, HJk.out.c, by have h9 := HJk.out.nb; intro e; exact h9 (by rw [e]; rfl), HJk.out.hb, HJk.out.bB⟩
  have HP0 := Lib.hid hPJ
  clear HJk HJ hPJ hg0 hg1
  go_wp2_with fail
  clear hlt hk
  go_loopw [9] (fun i wr => ∃ k : Nat, k ≤ m ∧ i = .int .i64 k ∧ Hid (PJ B w wr g B bp n cf n (lkJ n (ls.take k)))) (fun i _ => m - (intOf i).toNat)
  case atStart => exact ⟨0, Nat.zero_le _, rfl, HP0⟩
  case round =>
  obtain ⟨k, hk, rfl, HPk⟩ := hrel
  obtain ⟨wB, hwB⟩ : ∃ wx, wx = wr := ⟨_, rfl⟩
  subst hwB
  clear HP0
  by_cases hlt : k < m
  · obtain ⟨l, hlx⟩ : ∃ z, ls[k]? = some z := ⟨_, List.getElem?_eq_getElem (by rw [HL.out]; exact hlt)⟩
    have HLOK := Lib.hid (HO.out l (List.mem_of_getElem? hlx))
    have HLI := Lib.hid (lkJ_ok (n := n) (ls.take k) fun y hy => HO.out y (List.mem_of_mem_take hy))
    have HST0 : Hid (lkJ n (ls.take (k + 1)) = lkStep (lkJ n (ls.take k)) l) := Lib.hid (by rw [take_sn hlx]; exact lkJ_snoc _ _ _)
    have HM12 : Hid ((ls.take k).length ≤ 12) := Lib.hid (by rw [List.length_take]; omega)
    obtain ⟨b, ofs, hab, hC⟩ := (HR.out.below (by have h9 := HPk.out.t.b; rw [← HBW.out] at h9; exact h9)).addr (by rw [HL.out]; omega)
    subst hab
    have x0 := hC k l hlx _ (Below.refl _ _) 0 _ rfl
    rw [Nat.add_zero] at x0
    have x1 := hC k l hlx _ (Below.refl _ _) 1 _ rfl
    have x2 := hC k l hlx _ (Below.refl _ _) 2 _ rfl
    have j0 : (0 : Int) ≤ (k : Nat) := by omega
    have j1 : ((k : Nat) : Int) < (m : Nat) := by omega
    clear hC hlx
    go_wp2_with fail
    refine (l00Has_nil _ _).mono ?_
    rintro e wz ⟨rfl, rfl⟩
    go_wp2_with fail
    refine (add_any B w wB g B bp n cf n (lkJ n (ls.take k)) (ls.take k) l h10 HM12.out hBsz HLI.out HLOK.out HPk.out).mono ?_
    rintro e wz ⟨rfl, hP2⟩
    have HP2 := Lib.hid hP2
    clear hP2
    go_wp2_with fail
    go_roundw
    case rel => exact ⟨k + 1, by omega, by go_num, Lib.hid (by rw [HST0.out]; exact HP2.out)⟩
    case measure => simp [intOf]; omega
  · obtain rfl : m = k := by omega
    have HE : Hid (ls.take m = ls) := Lib.hid (List.take_of_length_le (by rw [HL.out]; omega))
    rw [HE.out] at HPk
    go_wp2_with fail
    go_ret
    exact ⟨g, B, bp, cf, rfl, HPk.out⟩
set_option maxHeartbeats 1000000 in
theorem spConsistent (n : Nat) (ls : List Lnk) (a : Option Addr) (m c : Nat) (w : World) (h1 : 1 ≤ n) (h10 : n ≤ 10) (hm : m ≤ 12) (hl : ls.length = m) (hok : ∀ l ∈ ls, LkOk n l) (hr : Rd Lnk.enc 3 w a ls) :
    Calls Try.prog 16 #[.int .i64 (n : Int), .slice a m c] w fun e w' => e = .returned (.tuple #[.bool (lkJ n ls).ok, .int .i64 0]) ∧ Below w.heap.size w w' := by
  have HL := Lib.hid hl
  have HO := Lib.hid hok
  have HR := Lib.hid hr
  clear hl hok hr
  go_enter Try.func16, Try.ntmps16
  go_wp2_with fail
  refine (l20Ok_ok n ls a m c _ h1 h10 hm HL.out HO.out HR.out).mono ?_
  rintro e w1 ⟨rfl, hb1⟩
  go_wp2_with fail
  refine (l20Join_any n ls a m c _ h1 h10 hm HL.out HO.out (HR.out.below hb1)).mono ?_
  rintro e w2 ⟨g, h, bp, cf, rfl, hP⟩
  have p2 : w2.cell? ⟨bp, 2, none⟩ = some (.bool (lkJ n ls).ok) := hP.c.cell 2
  have HB := Lib.hid (hb1.trans (hP.t.b.mono hb1.size))
  clear hP hb1
  go_wp2_with fail
  go_ret2
  exact ⟨rfl, HB.out⟩
end Go.Proofs.Ytcebjjkckfopiaa
