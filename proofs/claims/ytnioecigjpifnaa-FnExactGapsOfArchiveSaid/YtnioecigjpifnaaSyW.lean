/-
  The library's stable sort at windows: walks.
-/
import Derived.Test.YtnioecigjpifnaaSyP
import Derived.Test.YtnioecigjpifnaaVWin
import Derived.Test.YtnioecigjpifnaaBx
import Derived.Test.YtnioecigjpifnaaQTail
import Derived.Test.YtnioecigjpifnaaErr0
import Derived.Deep.RegionHeld3
import Derived.Deep.Cut
import Derived.BigQuiet
import Derived.BigRegion
namespace Go.Proofs.Ytnioecigjpifnaa
open Go.RowKit
set_option maxRecDepth 100000
set_option linter.unusedVariables false
set_option linter.unusedSimpArgs false
/-- what the comparison of windows gives -/
def cmpI (x y : Int) : Int := if x < y then -1 else if y < x then 1 else 0
def RW (x y : Win) : Prop := x.frm ≤ y.frm
theorem SyI.step' {E : Type} {key : E → Int} {R : E → E → Prop} {X L : List E} {i m : Nat} {x p : E} (h : SyI key R X L i x m) (hm : 0 < m) (hp : L[m - 1]? = some p) (hlt : key x < key p) : SyI key R X ((L.set m p).set (m - 1) x) i x (m - 1) := by
  obtain ⟨q, rfl⟩ : ∃ q, m = q + 1 := ⟨m - 1, by omega⟩
  exact h.step hp hlt
theorem ordW (x y : Win) : OrdQ Win.frm RW x y := by unfold OrdQ RW; omega
theorem keyRW (x y : Win) (h : RW x y) : x.frm ≤ y.frm := h
theorem ordW_all (X : List Win) : X.Pairwise (OrdQ Win.frm RW) := List.pairwise_of_forall ordW
theorem flatW_set : ∀ (L : List Win) (i : Nat) (y : Win), ((L.flatMap Win.enc).set (i * 2) (.int .i64 y.frm)).set (i * 2 + 1) (.int .i64 y.til) = (L.set i y).flatMap Win.enc
  | [], i, y => by simp
  | x :: L, 0, y => by simp [Win.enc]
  | x :: L, i + 1, y => by
    have := flatW_set L i y
    simp only [List.flatMap_cons, Win.enc, List.cons_append, List.nil_append, List.set_cons_succ]
    rw [show (i + 1) * 2 = i * 2 + 1 + 1 by omega, show i * 2 + 1 + 1 + 1 = (i * 2 + 1) + 1 + 1 by omega]
    simp only [List.set_cons_succ]
    rw [this]
theorem Ow.cellW {w : World} {base e g n cap : Nat} {xs : List Win} (h : Ow Win.enc 2 w base e (.slice (some ⟨g, 0, none⟩) n cap) n xs) {i : Nat} {x : Win} (hx : xs[i]? = some x) : w.cell? ⟨g, i * 2, none⟩ = some (.int .i64 x.frm) ∧ w.cell? ⟨g, i * 2 + 1, none⟩ = some (.int .i64 x.til) := by
  have hi : i < n := by rw [← h.len Win.len (by decide)]; exact (List.getElem?_eq_some_iff.1 hx).1
  have h0 := World.ownsRow.cellAt h (i * 2) (by omega)
  have h1 := World.ownsRow.cellAt h (i * 2 + 1) (by omega)
  have f0 := flat_get Win.len xs i x 0 hx (by decide)
  have f1 := flat_get Win.len xs i x 1 hx (by decide)
  rw [h0, h1]
  rw [Nat.add_zero] at f0
  rw [f0, f1]
  exact ⟨rfl, rfl⟩
theorem Ow.setW {w : World} {base e g n cap : Nat} {xs : List Win} (h : Ow Win.enc 2 w base e (.slice (some ⟨g, 0, none⟩) n cap) n xs) (i : Nat) (y : Win) : Ow Win.enc 2 ((w.setCell ⟨g, i * 2, none⟩ (.int .i64 y.frm)).setCell ⟨g, i * 2 + 1, none⟩ (.int .i64 y.til)) base e (.slice (some ⟨g, 0, none⟩) n cap) n (xs.set i y) := by
  have h1 := (World.ownsRow.stored h (i * 2) (.int .i64 y.frm)).1
  have h2 := (World.ownsRow.stored h1 (i * 2 + 1) (.int .i64 y.til)).1
  rw [flatW_set] at h2
  exact h2
theorem Ow.frozW {w : World} {base e g n cap : Nat} {xs : List Win} (h : Ow Win.enc 2 w base e (.slice (some ⟨g, 0, none⟩) n cap) n xs) (m : Nat) : w.frozen? ⟨g, m, none⟩ = false := World.ownsRow.frozenAt h m
theorem Ow.midW {w : World} {base e g n cap : Nat} {xs : List Win} (h : Ow Win.enc 2 w base e (.slice (some ⟨g, 0, none⟩) n cap) n xs) {i : Nat} {x : Win} (hx : xs[i]? = some x) (v : Value) : (w.setCell ⟨g, i * 2, none⟩ v).cell? ⟨g, i * 2 + 1, none⟩ = some (.int .i64 x.til) ∧ (w.setCell ⟨g, i * 2, none⟩ v).frozen? ⟨g, i * 2 + 1, none⟩ = false := by
  have hi : i < n := by rw [← h.len Win.len (by decide)]; exact (List.getElem?_eq_some_iff.1 hx).1
  have h1 := (World.ownsRow.stored h (i * 2) v).1
  refine ⟨?_, World.ownsRow.frozenAt h1 _⟩
  rw [World.ownsRow.cellAt h1 (i * 2 + 1) (by omega), List.getElem?_set_ne (by omega)]
  have f1 := flat_get Win.len xs i x 1 hx (by decide)
  rw [f1]; rfl
theorem set_other {L : List Win} {a b : Nat} {y : Win} (h : L[b]? = some y) : (L.set a y)[b]? = some y := by
  by_cases e : a = b
  · subst e
    rw [List.getElem?_set_self (List.getElem?_eq_some_iff.1 h).1]
  · rw [List.getElem?_set_ne e]; exact h
theorem Ow.drewW {w : World} {base e g n cap : Nat} {xs : List Win} (h : Ow Win.enc 2 w base e (.slice (some ⟨g, 0, none⟩) n cap) n xs) : Ow Win.enc 2 w.drew base e (.slice (some ⟨g, 0, none⟩) n cap) n xs := h.below (Below.refl _ _).drew
theorem Below.setW {w w' : World} {B g : Nat} (h : Below B w w') (hg : B ≤ g) (i : Nat) (y : Win) : Below B w ((w'.setCell ⟨g, i * 2, none⟩ (.int .i64 y.frm)).setCell ⟨g, i * 2 + 1, none⟩ (.int .i64 y.til)) :=
  (h.setCell (p := ⟨g, i * 2, none⟩) hg _).setCell (p := ⟨g, i * 2 + 1, none⟩) hg _
set_option maxHeartbeats 4000000 in
theorem swapW (P I M J S : List Win) (g n c B0 a b k : Nat) (fv : Value) (w : World) (hg0 : B0 ≤ g) (hn : n ≤ 100000) (ha : P.length = a) (hb : P.length + k + M.length = b) (hI : I.length = k) (hJ : J.length = k) (ho : Ow Win.enc 2 w B0 60 (.slice (some ⟨g, 0, none⟩) n c) n (P ++ (I ++ (M ++ (J ++ S))))) :
    Calls Try.prog 90 #[.slice (some ⟨g, 0, none⟩) n c, .int .i64 a, .int .i64 b, .int .i64 k, fv] w fun e w' => e = .returned (.tuple #[]) ∧ Ow Win.enc 2 w' B0 60 (.slice (some ⟨g, 0, none⟩) n c) n (P ++ (J ++ (M ++ (I ++ S)))) ∧ Below B0 w w' := by
  have hlen := ho.len Win.len (by decide)
  simp only [List.length_append] at hlen
  have HA := Lib.hid ha
  have HB := Lib.hid hb
  have HI := Lib.hid hI
  have HJ := Lib.hid hJ
  have han : a + k ≤ n := by omega
  have hbn : b + k ≤ n := by omega
  have HO := Lib.hid ho
  clear ho ha hb hI hJ hlen
  go_enter Try.func90, Try.ntmps90
  go_wp2_with fail
  go_loopw [10] (fun i wr => ∃ m : Nat, m ≤ k ∧ i = .int .i64 m ∧ Hid (Ow Win.enc 2 wr B0 60 (.slice (some ⟨g, 0, none⟩) n c) n (SwpL P I M J S m)) ∧ Hid (Below B0 w wr)) (fun i _ => k - (intOf i).toNat)
  case atStart => exact ⟨0, Nat.zero_le _, rfl, Lib.hid (by rw [SwpL.zero]; exact HO.out), Lib.hid (Below.refl _ _)⟩
  case round =>
    obtain ⟨m, hm, rfl, HOk, HBk⟩ := hrel
    obtain ⟨wq, hwq⟩ : ∃ wx, wx = wr := ⟨_, rfl⟩
    subst hwq
    by_cases hlt : m < k
    · obtain ⟨A, hAA⟩ : ∃ z, a + m = z := ⟨_, rfl⟩
      obtain ⟨B, hBB⟩ : ∃ z, b + m = z := ⟨_, rfl⟩
      obtain ⟨x, hx⟩ : ∃ z, (SwpL P I M J S m)[A]? = some z := ⟨_, by rw [← hAA]; exact SwpL.getA HA.out HI.out HJ.out hlt⟩
      obtain ⟨y, hy⟩ : ∃ z, (SwpL P I M J S m)[B]? = some z := ⟨_, by rw [← hBB]; exact SwpL.getB HB.out HI.out HJ.out hlt⟩
      have HST := Lib.hid (SwpL.step HA.out HB.out HI.out HJ.out hlt (by rw [hAA]; exact hx) (by rw [hBB]; exact hy))
      rw [hAA, hBB] at HST
      have HX := Lib.hid hx
      have HY := Lib.hid hy
      clear hx hy
      have ia : IntKind.i64.wrap ((a : Int) + (m : Int)) = (A : Int) := by rw [show (a : Int) + (m : Int) = (A : Int) by omega]; exact IntWalk.i64_in _ (by omega)
      have ib : IntKind.i64.wrap ((b : Int) + (m : Int)) = (B : Int) := by rw [show (b : Int) + (m : Int) = (B : Int) by omega]; exact IntWalk.i64_in _ (by omega)
      have yp := HOk.out.cellW HX.out
      have cp0 := yp.1
      have cp1 := yp.2
      clear yp
      have fp0 := HOk.out.frozW (A * 2)
      have fp1 := HOk.out.frozW (A * 2 + 1)
      have yq := HOk.out.cellW HY.out
      have cq0 := yq.1
      have cq1 := yq.2
      clear yq
      have fq0 := HOk.out.frozW (B * 2)
      have fq1 := HOk.out.frozW (B * 2 + 1)
      have jp0 : (0 : Int) ≤ (A : Nat) := by omega
      have jp1 : ((A : Nat) : Int) < n := by omega
      have jq0 : (0 : Int) ≤ (B : Nat) := by omega
      have jq1 : ((B : Nat) : Int) < n := by omega
      have hm1 := HOk.out.midW HX.out (.int .i64 y.frm)
      have cm0 := hm1.1
      have fm0 := hm1.2
      have HO1 := Lib.hid (HOk.out.setW A y)
      have hm2 := HO1.out.cellW (set_other (a := A) HY.out)
      have cm1 := hm2.1
      have cm2 := hm2.2
      have hm3 := HO1.out.midW (set_other (a := A) HY.out) (.int .i64 x.frm)
      have cm3 := hm3.1
      have fm3 := hm3.2
      have fm1 := HO1.out.frozW (B * 2)
      have fm2 := HO1.out.frozW (B * 2 + 1)
      clear hm1 hm2 hm3 HO1
      have HOn := Lib.hid (Ow.drewW ((HOk.out.setW A y).setW B x))
      have HBn := Lib.hid (Below.drew (Below.setW (Below.setW HBk.out hg0 A y) hg0 B x))
      go_upto_region 3 with (fail)
      go_big_region
      obtain ⟨wn, hwn⟩ : ∃ wx, (((((wq.setCell ⟨g, A * 2, none⟩ (.int .i64 y.frm)).setCell ⟨g, A * 2 + 1, none⟩ (.int .i64 y.til)).setCell ⟨g, B * 2, none⟩ (.int .i64 x.frm)).setCell ⟨g, B * 2 + 1, none⟩ (.int .i64 x.til)).drew) = wx := ⟨_, rfl⟩
      rw [hwn] at HOn HBn ⊢
      clear hwn cm0 fm0 cm1 cm2 cm3 fm3 fm1 fm2 cp0 cp1 cq0 cq1 fp0 fp1 fq0 fq1 jp0 jp1 jq0 jq1
      clear ia ib hAA hBB
      rw [HST.out] at HOn
      go_wp2_with fail
      go_roundw
      case rel => exact ⟨m + 1, by omega, by go_num, HOn, HBn⟩
      case measure => simp [intOf]; omega
    · have hmk : m = k := by omega
      have HF := Lib.hid (SwpL.full (P := P) (M := M) (S := S) HI.out HJ.out)
      go_wp2_with fail
      go_end0
      exact ⟨rfl, by rw [← HF.out, ← hmk]; exact HOk.out, HBk.out⟩
set_option maxHeartbeats 4000000 in
theorem rotW (P I J S : List Win) (g n c B0 a m b : Nat) (fv : Value) (w : World) (hg0 : B0 ≤ g) (hn : n ≤ 100000) (ha : P.length = a) (hI : a + I.length = m) (hJ : m + J.length = b) (h1 : 1 ≤ I.length) (h2 : 1 ≤ J.length) (ho : Ow Win.enc 2 w B0 60 (.slice (some ⟨g, 0, none⟩) n c) n (P ++ (I ++ (J ++ S)))) :
    Calls Try.prog 89 #[.slice (some ⟨g, 0, none⟩) n c, .int .i64 a, .int .i64 m, .int .i64 b, fv] w fun e w' => e = .returned (.tuple #[]) ∧ Ow Win.enc 2 w' B0 60 (.slice (some ⟨g, 0, none⟩) n c) n (P ++ (J ++ (I ++ S))) ∧ Below B0 w w' := by
  have hlen := ho.len Win.len (by decide)
  simp only [List.length_append] at hlen
  have hbn : b ≤ n := by omega
  obtain ⟨i0, hi0⟩ : ∃ z, I.length = z := ⟨_, rfl⟩
  obtain ⟨j0, hj0⟩ : ∃ z, J.length = z := ⟨_, rfl⟩
  have HQ : Hid (RotQ (P ++ (J ++ (I ++ S))) (P ++ (I ++ (J ++ S))) P I J S m i0 j0) := Lib.hid ⟨rfl, rfl, by omega, hi0, hj0⟩
  have HO := Lib.hid ho
  have ia : IntKind.i64.wrap ((m : Int) - (a : Int)) = (i0 : Int) := by rw [show (m : Int) - (a : Int) = (i0 : Int) by omega]; exact IntWalk.i64_in _ (by omega)
  have ib : IntKind.i64.wrap ((b : Int) - (m : Int)) = (j0 : Int) := by rw [show (b : Int) - (m : Int) = (j0 : Int) by omega]; exact IntWalk.i64_in _ (by omega)
  have h1' : 1 ≤ i0 := by omega
  have h2' : 1 ≤ j0 := by omega
  have hmn : m ≤ n := by omega
  clear ho ha hI hJ h1 h2 hlen hi0 hj0
  go_enter Try.func89, Try.ntmps89
  go_wp2_with fail
  go_loopw [10, 11] (fun vi vj wr => ∃ (i j : Nat) (L P' I' J' S' : List Win), vi = .int .i64 i ∧ vj = .int .i64 j ∧ 1 ≤ i ∧ 1 ≤ j ∧ Hid (RotQ (P ++ (J ++ (I ++ S))) L P' I' J' S' m i j) ∧ Hid (Ow Win.enc 2 wr B0 60 (.slice (some ⟨g, 0, none⟩) n c) n L) ∧ Hid (Below B0 w wr)) (fun vi vj _ => (intOf vi).toNat + (intOf vj).toNat)
  case atStart => exact ⟨i0, j0, _, _, _, _, _, rfl, rfl, h1', h2', HQ, HO, Lib.hid (Below.refl _ _)⟩
  case round =>
    obtain ⟨i, j, L, P', I', J', S', rfl, rfl, hi1, hj1, HR, HOk, HBk⟩ := hrel
    obtain ⟨wq, hwq⟩ : ∃ wx, wx = wr := ⟨_, rfl⟩
    subst hwq
    have hp := HR.out.p
    have hll := HOk.out.len Win.len (by decide)
    have hL := HR.out.l
    rw [hL] at hll
    simp only [List.length_append] at hll
    have hIl := HR.out.i_
    have hJl := HR.out.j_
    have hjn : j ≤ n := by omega
    obtain ⟨pa, hpa⟩ : ∃ z, P'.length = z := ⟨_, rfl⟩
    have hpm : pa + i = m := by omega
    have HPA := Lib.hid hpa
    have HLL := Lib.hid hL
    have HIl := Lib.hid hIl
    have HJl := Lib.hid hJl
    have id : IntKind.i64.wrap ((m : Int) - (i : Int)) = (pa : Int) := by rw [show (m : Int) - (i : Int) = (pa : Int) by omega]; exact IntWalk.i64_in _ (by omega)
    clear hll hL hIl hJl hpa hp ia ib
    by_cases hne : i = j
    · have dne : ((i : Int) != (j : Int)) = false := by rw [hne]; simp
      have dnn : (i != j) = false := by rw [hne]; simp
      have CS := Lib.hid (swapW P' I' [] J' S' g n c B0 pa m i fv wq hg0 hn HPA.out (by rw [HPA.out]; simp; omega) HIl.out (by rw [HJl.out]; omega) (by rw [List.nil_append, ← HLL.out]; exact HOk.out))
      clear hne
      go_wp2_with fail
      refine (CS.out).mono ?_
      rintro e w9 ⟨rfl, ho9, hb9⟩
      have HO9 := Lib.hid ho9
      have HB9 := Lib.hid (HBk.out.trans hb9)
      clear ho9 hb9 CS
      go_wp2_with fail
      go_end0
      exact ⟨rfl, by rw [HR.out.t]; have h9 := HO9.out; rw [List.nil_append] at h9; exact h9, HB9.out⟩
    · have dne : ((i : Int) != (j : Int)) = true := bne_iff_ne.2 (by omega)
      have dnn : (i != j) = true := bne_iff_ne.2 hne
      by_cases hij : j < i
      · have dij : decide ((j : Int) < (i : Int)) = true := decide_eq_true (by omega)
        have dijn : decide (j < i) = true := decide_eq_true hij
        obtain ⟨I1, I2, hI12, hI1, hL1, hR1⟩ := HR.out.big hij
        have hI2 : I2.length = i - j := hR1.i_
        have CS := Lib.hid (swapW P' I1 I2 J' S' g n c B0 pa m j fv wq hg0 hn HPA.out (by rw [HPA.out, hI2]; omega) hI1 HJl.out (by rw [← hL1]; exact HOk.out))
        have HR1 := Lib.hid hR1
        have ie : IntKind.i64.wrap ((i : Int) - (j : Int)) = ((i - j : Nat) : Int) := by rw [show (i : Int) - (j : Int) = ((i - j : Nat) : Int) by omega]; exact IntWalk.i64_in _ (by omega)
        clear hI12 hI1 hL1 hR1 hI2
        go_wp2_with fail
        refine (CS.out).mono ?_
        rintro e w9 ⟨rfl, ho9, hb9⟩
        have HO9 := Lib.hid ho9
        have HB9 := Lib.hid (HBk.out.trans hb9)
        clear ho9 hb9 CS
        go_wp2_with fail
        go_roundw
        case rel => exact ⟨i - j, j, _, _, _, _, _, rfl, rfl, by omega, hj1, HR1, HO9, HB9⟩
        case measure => simp [intOf]; omega
      · have dij : decide ((j : Int) < (i : Int)) = false := decide_eq_false (by omega)
        have dijn : decide (j < i) = false := decide_eq_false hij
        obtain ⟨J1, J2, hJ12, hJ2, hL1, hR1, hJ1⟩ := HR.out.small (by omega)
        obtain ⟨pb, hpb⟩ : ∃ z, m + j - i = z := ⟨_, rfl⟩
        have CS := Lib.hid (swapW P' I' J1 J2 S' g n c B0 pa pb i fv wq hg0 hn HPA.out (by rw [HPA.out, hJ1]; omega) HIl.out hJ2 (by rw [← hL1]; exact HOk.out))
        have HR1 := Lib.hid hR1
        have ie : IntKind.i64.wrap ((j : Int) - (i : Int)) = ((j - i : Nat) : Int) := by rw [show (j : Int) - (i : Int) = ((j - i : Nat) : Int) by omega]; exact IntWalk.i64_in _ (by omega)
        have ig : IntKind.i64.wrap ((m : Int) + (j : Int)) = (m : Int) + (j : Int) := IntWalk.i64_in _ (by omega)
        have ih : IntKind.i64.wrap ((m : Int) + (j : Int) - (i : Int)) = (pb : Int) := by rw [show (m : Int) + (j : Int) - (i : Int) = (pb : Int) by omega]; exact IntWalk.i64_in _ (by omega)
        clear hJ12 hJ1 hL1 hR1 hJ2
        go_wp2_with fail
        refine (CS.out).mono ?_
        rintro e w9 ⟨rfl, ho9, hb9⟩
        have HO9 := Lib.hid ho9
        have HB9 := Lib.hid (HBk.out.trans hb9)
        clear ho9 hb9 CS
        go_wp2_with fail
        go_roundw
        case rel => exact ⟨i, j - i, _, _, _, _, _, rfl, rfl, hi1, by omega, HR1, HO9, HB9⟩
        case measure => simp [intOf]; omega
theorem isNaN_any (x : Int) (w : World) : Calls Try.prog 82 #[.int .i64 x] w fun e w' => e = .returned (.bool false) ∧ w = w' := by
  have d0 : (x != x) = false := by simp
  go_enter Try.func82, Try.ntmps82
  go_wp2_with fail
  go_ret
  exact ⟨rfl, rfl⟩
set_option maxHeartbeats 1000000 in
theorem compare_any (x y cz : Int) (w : World) (h : cmpI x y = cz) : Calls Try.prog 74 #[.int .i64 x, .int .i64 y] w fun e w' => e = .returned (.int .i64 cz) ∧ w = w' := by
  have HH := Lib.hid h
  clear h
  by_cases h1 : x < y
  · have d1 : decide (x < y) = true := decide_eq_true h1
    have hz : cz = -1 := by rw [← HH.out]; unfold cmpI; rw [if_pos h1]
    subst hz
    go_enter Try.func74, Try.ntmps74
    go_wp2_with fail
    refine (isNaN_any x _).mono ?_
    rintro e wz ⟨rfl, rfl⟩
    go_wp2_with fail
    refine (isNaN_any y _).mono ?_
    rintro e wz ⟨rfl, rfl⟩
    go_wp2_with fail
    go_ret
    exact ⟨rfl, rfl⟩
  · have d1 : decide (x < y) = false := decide_eq_false h1
    by_cases h2 : y < x
    · have d2 : decide (y < x) = true := decide_eq_true h2
      have hz : cz = 1 := by rw [← HH.out]; unfold cmpI; rw [if_neg h1, if_pos h2]
      subst hz
      go_enter Try.func74, Try.ntmps74
      go_wp2_with fail
      refine (isNaN_any x _).mono ?_
      rintro e wz ⟨rfl, rfl⟩
      go_wp2_with fail
      refine (isNaN_any y _).mono ?_
      rintro e wz ⟨rfl, rfl⟩
      go_wp2_with fail
      go_ret
      exact ⟨rfl, rfl⟩
    · have d2 : decide (y < x) = false := decide_eq_false h2
      have hz : cz = 0 := by rw [← HH.out]; unfold cmpI; rw [if_neg h1, if_neg h2]
      subst hz
      go_enter Try.func74, Try.ntmps74
      go_wp2_with fail
      refine (isNaN_any x _).mono ?_
      rintro e wz ⟨rfl, rfl⟩
      go_wp2_with fail
      refine (isNaN_any y _).mono ?_
      rintro e wz ⟨rfl, rfl⟩
      go_wp2_with fail
      go_ret
      exact ⟨rfl, rfl⟩
set_option maxHeartbeats 1000000 in
theorem longCmp (x y : Win) (cz : Int) (w : World) (h : cmpI x.frm y.frm = cz) : Calls Try.prog 73 #[.agg #[.int .i64 x.frm, .int .i64 x.til], .agg #[.int .i64 y.frm, .int .i64 y.til]] w fun e w' => e = .returned (.int .i64 cz) ∧ Below w.heap.size w w' := by
  obtain ⟨h1, h2, h3, h4⟩ := bx2 w #[.int .i64 x.frm, .int .i64 x.til] #[.int .i64 y.frm, .int .i64 y.til] 60 60
  have HB := Lib.hid h3
  have c0 := h1.cell 0
  have c1 := h2.cell 0
  have HH := Lib.hid h
  clear h1 h2 h3 h4 h
  go_enter Try.func73, Try.ntmps73
  go_wp2_with fail
  refine (compare_any x.frm y.frm cz _ HH.out).mono ?_
  rintro e wz ⟨rfl, rfl⟩
  go_wp2_with fail
  go_ret
  exact ⟨rfl, HB.out⟩
set_option maxHeartbeats 4000000 in
theorem insW (A Y B : List Win) (g n c B0 a b : Nat) (w : World) (hB0 : B0 ≤ w.heap.size) (hg0 : B0 ≤ g) (hn : n ≤ 100000) (ha : A.length = a) (hb : a + Y.length = b) (ho : Ow Win.enc 2 w B0 60 (.slice (some ⟨g, 0, none⟩) n c) n (A ++ (Y ++ B))) :
    Calls Try.prog 87 #[.slice (some ⟨g, 0, none⟩) n c, .int .i64 a, .int .i64 b, .func (.func 73) #[] #[]] w fun e w' => e = .returned (.tuple #[]) ∧ ∃ M, SyD RW Y M ∧ Ow Win.enc 2 w' B0 60 (.slice (some ⟨g, 0, none⟩) n c) n (A ++ (M ++ B)) ∧ Below B0 w w' := by
  have hlen := ho.len Win.len (by decide)
  simp only [List.length_append] at hlen
  have hbn : b ≤ n := by omega
  obtain ⟨q, hq⟩ : ∃ z, Y.length = z := ⟨_, rfl⟩
  have hab : a + q = b := by omega
  have HA := Lib.hid ha
  have HY := Lib.hid hq
  have HO := Lib.hid ho
  have i0 : IntKind.i64.wrap ((a : Int) + 1) = (a : Int) + 1 := IntWalk.i64_in _ (by omega)
  clear ho ha hb hlen hq
  go_enter Try.func87, Try.ntmps87
  go_wp2_with fail
  go_loopw [8] (fun i wr => ∃ (k : Nat) (L : List Win), 1 ≤ k ∧ k ≤ q + 1 ∧ i = .int .i64 ((a : Int) + (k : Int)) ∧ Hid (SyO RW Y L k) ∧ Hid (Ow Win.enc 2 wr B0 60 (.slice (some ⟨g, 0, none⟩) n c) n (A ++ (L ++ B))) ∧ Hid (Below B0 w wr)) (fun i _ => b + 1 - (intOf i).toNat)
  case atStart => exact ⟨1, Y, Nat.le_refl _, by omega, by rw [Int.natCast_one], Lib.hid (SyO.first RW Y), HO, Lib.hid (Below.refl _ _)⟩
  case round =>
    obtain ⟨k, L, hk1, hk, rfl, HI, HOk, HBk⟩ := hrel
    clear i0
    obtain ⟨wq0, hwq0⟩ : ∃ wx, wx = wr := ⟨_, rfl⟩
    subst hwq0
    by_cases hlt : k < q
    · have d0 : decide ((a : Int) + (k : Int) < (b : Int)) = true := decide_eq_true (by omega)
      have ix : IntKind.i64.wrap ((a : Int) + (k : Int) + 1) = (a : Int) + (k : Int) + 1 := IntWalk.i64_in _ (by omega)
      obtain ⟨x, hx⟩ : ∃ z, Y[k]? = some z := ⟨_, List.getElem?_eq_getElem (by rw [HY.out]; exact hlt)⟩
      have HX := Lib.hid hx
      clear hx
      go_wp2_with fail
      go_loopw [9] (fun j wr => ∃ (m : Nat) (L : List Win), m ≤ k ∧ j = .int .i64 ((a + m : Nat) : Int) ∧ Hid (SyI Win.frm RW Y L k x m) ∧ Hid (Ow Win.enc 2 wr B0 60 (.slice (some ⟨g, 0, none⟩) n c) n (A ++ (L ++ B))) ∧ Hid (Below B0 w wr)) (fun j _ => (intOf j).toNat)
      case atStart => exact ⟨k, L, Nat.le_refl _, by rw [Int.natCast_add], Lib.hid (HI.out.go (ordW_all Y) HX.out), HOk, HBk⟩
      case round =>
        obtain ⟨m, Lj, hm, rfl, HJ, HOj, HBj⟩ := hrel
        obtain ⟨wq, hwq⟩ : ∃ wx, wx = wr := ⟨_, rfl⟩
        subst hwq
        obtain ⟨J, hJ⟩ : ∃ z, a + m = z := ⟨_, rfl⟩
        rw [hJ]
        have hLl : Lj.length = q := by rw [← HY.out]; exact HJ.out.len (by rw [HY.out]; exact hlt)
        have hpx : (A ++ (Lj ++ B))[J]? = some x := by rw [← hJ, mid_get HA.out (by omega)]; exact HJ.out.at_
        have HPX := Lib.hid hpx
        clear hpx
        by_cases h0 : 0 < m
        · obtain ⟨p, hp, hpm, hpx⟩ := HJ.out.prev h0
          obtain ⟨K, hK⟩ : ∃ z, J - 1 = z := ⟨_, rfl⟩
          have HPP : Hid ((A ++ (Lj ++ B))[K]? = some p) := Lib.hid (by rw [← hK, ← hJ, show a + m - 1 = a + (m - 1) by omega, mid_get HA.out (by omega)]; exact hp)
          have HP := Lib.hid hp
          have iJ : IntKind.i64.wrap ((J : Int) - 1) = (K : Int) := by rw [show (J : Int) - 1 = (K : Int) by omega]; exact IntWalk.i64_in _ (by omega)
          have dJ : decide ((a : Int) < (J : Int)) = true := decide_eq_true (by omega)
          have dJn : decide (a < J) = true := decide_eq_true (by omega)
          clear hp hpm hpx d0
          by_cases hkk : x.frm < p.frm
          · have HKK := Lib.hid hkk
            have hsz : B0 ≤ wq.heap.size := Nat.le_trans hB0 HBj.out.size
            have HS : Hid (∀ wz, Below wq.heap.size wq wz → wz.cell? ⟨g, J * 2, none⟩ = some (.int .i64 x.frm) ∧ wz.cell? ⟨g, J * 2 + 1, none⟩ = some (.int .i64 x.til) ∧ wz.cell? ⟨g, K * 2, none⟩ = some (.int .i64 p.frm) ∧ wz.cell? ⟨g, K * 2 + 1, none⟩ = some (.int .i64 p.til)) := Lib.hid fun wz hz => by
              have h9 := HOj.out.below hz
              exact ⟨(h9.cellW HPX.out).1, (h9.cellW HPX.out).2, (h9.cellW HPP.out).1, (h9.cellW HPP.out).2⟩
            have HD : Hid (Below wq.heap.size wq wq.drew) := Lib.hid (Below.refl _ _).drew
            obtain ⟨cz, hcz⟩ : ∃ z, cmpI x.frm p.frm = z := ⟨_, rfl⟩
            have dcz : decide (cz < 0) = true := by rw [← hcz]; unfold cmpI; rw [if_pos (by omega)]; rfl
            have HCZ := Lib.hid hcz
            clear hcz
            have jp0 : (0 : Int) ≤ (J : Nat) := by omega
            have jp1 : ((J : Nat) : Int) < n := by omega
            have jq0 : (0 : Int) ≤ (K : Nat) := by omega
            have jq1 : ((K : Nat) : Int) < n := by omega
            go_wp2_with fail
            go_region_held3 (fun wz : World => wz.cell? ⟨g, J * 2, none⟩ = some (.int .i64 x.frm) ∧ wz.cell? ⟨g, J * 2 + 1, none⟩ = some (.int .i64 x.til) ∧ wz.cell? ⟨g, K * 2, none⟩ = some (.int .i64 p.frm) ∧ wz.cell? ⟨g, K * 2 + 1, none⟩ = some (.int .i64 p.til)) (first | (go_keep; done) | exact HS.out _ HD.out | exact HS.out _ HDz.out | fail) (first | (go_at_call 73; (with_reducible refine (longCmp x p cz _ HCZ.out).mono ?_); rintro e w1 ⟨rfl, hb1⟩; have HDz : Hid (Below wq.heap.size wq w1) := Lib.hid (HD.out.trans (hb1.mono HD.out.size)); clear hb1))
            have HOz := Lib.hid (HOj.out.below HDz.out)
            have HBz := Lib.hid (HBj.out.trans (HDz.out.mono hsz))
            clear HS HD HDz HCZ dcz jp0 jp1 jq0 jq1 hsz
            have HSTx := Lib.hid (HJ.out.step' h0 HP.out HKK.out)
            have HMS : Hid (((A ++ (Lj ++ B)).set J p).set K x = A ++ (((Lj.set m p).set (m - 1) x) ++ B)) := Lib.hid (by
              rw [← hK, ← hJ, mid_set HA.out (by omega), show a + m - 1 = a + (m - 1) by omega, mid_set HA.out (by rw [List.length_set]; omega)])
            clear HJ
            have yp := HOz.out.cellW HPX.out
            have cp0 := yp.1
            have cp1 := yp.2
            clear yp
            have fp0 := HOz.out.frozW (J * 2)
            have fp1 := HOz.out.frozW (J * 2 + 1)
            have yq := HOz.out.cellW HPP.out
            have cq0 := yq.1
            have cq1 := yq.2
            clear yq
            have fq0 := HOz.out.frozW (K * 2)
            have fq1 := HOz.out.frozW (K * 2 + 1)
            have jp0 : (0 : Int) ≤ (J : Nat) := by omega
            have jp1 : ((J : Nat) : Int) < n := by omega
            have jq0 : (0 : Int) ≤ (K : Nat) := by omega
            have jq1 : ((K : Nat) : Int) < n := by omega
            have hm1 := HOz.out.midW HPX.out (.int .i64 p.frm)
            have cm0 := hm1.1
            have fm0 := hm1.2
            have HO1 := Lib.hid (HOz.out.setW J p)
            have hm2 := HO1.out.cellW (set_other (a := J) HPP.out)
            have cm1 := hm2.1
            have cm2 := hm2.2
            have hm3 := HO1.out.midW (set_other (a := J) HPP.out) (.int .i64 x.frm)
            have cm3 := hm3.1
            have fm3 := hm3.2
            have fm1 := HO1.out.frozW (K * 2)
            have fm2 := HO1.out.frozW (K * 2 + 1)
            clear hm1 hm2 hm3 HO1
            have HOn := Lib.hid (Ow.drewW ((HOz.out.setW J p).setW K x))
            have HBn := Lib.hid (Below.drew (Below.setW (Below.setW HBz.out hg0 J p) hg0 K x))
            go_upto_region 6 with (fail)
            go_big_region
            obtain ⟨wn, hwn⟩ : ∃ wx, (((((w1.setCell ⟨g, J * 2, none⟩ (.int .i64 p.frm)).setCell ⟨g, J * 2 + 1, none⟩ (.int .i64 p.til)).setCell ⟨g, K * 2, none⟩ (.int .i64 x.frm)).setCell ⟨g, K * 2 + 1, none⟩ (.int .i64 x.til)).drew) = wx := ⟨_, rfl⟩
            rw [hwn] at HOn HBn ⊢
            clear hwn cm0 fm0 cm1 cm2 cm3 fm3 fm1 fm2 cp0 cp1 cq0 cq1 fp0 fp1 fq0 fq1 jp0 jp1 jq0 jq1
            rw [HMS.out] at HOn
            go_wp2_with fail
            go_roundw
            case rel => exact ⟨m - 1, _, by omega, by rw [show a + (m - 1) = K by omega], HSTx, HOn, HBn⟩
            case measure => simp [intOf]; omega
          · have HKK := Lib.hid hkk
            have hsz : B0 ≤ wq.heap.size := Nat.le_trans hB0 HBj.out.size
            have HS : Hid (∀ wz, Below wq.heap.size wq wz → wz.cell? ⟨g, J * 2, none⟩ = some (.int .i64 x.frm) ∧ wz.cell? ⟨g, J * 2 + 1, none⟩ = some (.int .i64 x.til) ∧ wz.cell? ⟨g, K * 2, none⟩ = some (.int .i64 p.frm) ∧ wz.cell? ⟨g, K * 2 + 1, none⟩ = some (.int .i64 p.til)) := Lib.hid fun wz hz => by
              have h9 := HOj.out.below hz
              exact ⟨(h9.cellW HPX.out).1, (h9.cellW HPX.out).2, (h9.cellW HPP.out).1, (h9.cellW HPP.out).2⟩
            have HD : Hid (Below wq.heap.size wq wq.drew) := Lib.hid (Below.refl _ _).drew
            obtain ⟨cz, hcz⟩ : ∃ z, cmpI x.frm p.frm = z := ⟨_, rfl⟩
            have dcz : decide (cz < 0) = false := by rw [← hcz]; unfold cmpI; rw [if_neg (by omega)]; split <;> rfl
            have HCZ := Lib.hid hcz
            clear hcz
            have jp0 : (0 : Int) ≤ (J : Nat) := by omega
            have jp1 : ((J : Nat) : Int) < n := by omega
            have jq0 : (0 : Int) ≤ (K : Nat) := by omega
            have jq1 : ((K : Nat) : Int) < n := by omega
            go_wp2_with fail
            go_region_held3 (fun wz : World => wz.cell? ⟨g, J * 2, none⟩ = some (.int .i64 x.frm) ∧ wz.cell? ⟨g, J * 2 + 1, none⟩ = some (.int .i64 x.til) ∧ wz.cell? ⟨g, K * 2, none⟩ = some (.int .i64 p.frm) ∧ wz.cell? ⟨g, K * 2 + 1, none⟩ = some (.int .i64 p.til)) (first | (go_keep; done) | exact HS.out _ HD.out | exact HS.out _ HDz.out | fail) (first | (go_at_call 73; (with_reducible refine (longCmp x p cz _ HCZ.out).mono ?_); rintro e w1 ⟨rfl, hb1⟩; have HDz : Hid (Below wq.heap.size wq w1) := Lib.hid (HD.out.trans (hb1.mono HD.out.size)); clear hb1))
            have HOz := Lib.hid (HOj.out.below HDz.out)
            have HBz := Lib.hid (HBj.out.trans (HDz.out.mono hsz))
            clear HS HD HDz HCZ dcz jp0 jp1 jq0 jq1 hsz
            have HIN : Hid (SyO RW Y Lj (k + 1)) := Lib.hid (HJ.out.stop keyRW HX.out (.inr ⟨p, HP.out, by have h9 := HKK.out; omega⟩))
            go_wp2_with fail
            go_roundw
            case rel => exact ⟨k + 1, Lj, by omega, by omega, by rw [Int.natCast_add, Int.natCast_one, Int.add_assoc], HIN, HOz, HBz⟩
            case measure => simp [intOf]; omega
        · have hm0 : m = 0 := by omega
          have dJ : decide ((a : Int) < (J : Int)) = false := decide_eq_false (by omega)
          have dJn : decide (a < J) = false := decide_eq_false (by omega)
          have HIN : Hid (SyO RW Y Lj (k + 1)) := Lib.hid (HJ.out.stop keyRW HX.out (.inl hm0))
          have hsz : B0 ≤ wq.heap.size := Nat.le_trans hB0 HBj.out.size
          clear hm0 d0
          go_wp2_with fail
          go_quiet (fail)
          have HB4 : Hid (Below wq.heap.size wq (wq.drewN nq)) := Lib.hid (below_drewN (Below.refl _ _) nq)
          obtain ⟨w4, hw4⟩ : ∃ wz, wq.drewN nq = wz := ⟨_, rfl⟩
          rw [hw4] at HB4 ⊢
          have HO4 := Lib.hid (HOj.out.below HB4.out)
          have HBw := Lib.hid (HBj.out.trans (HB4.out.mono hsz))
          clear hw4
          go_wp2_with fail
          go_roundw
          case rel => exact ⟨k + 1, Lj, by omega, by omega, by rw [Int.natCast_add, Int.natCast_one, Int.add_assoc], HIN, HO4, HBw⟩
          case measure => simp [intOf]; omega
    · have d0 : decide ((a : Int) + (k : Int) < (b : Int)) = false := decide_eq_false (by omega)
      have HS := Lib.hid (HI.out.last (by rw [HY.out]; omega))
      go_wp2_with fail
      go_end0
      exact ⟨rfl, L, HS.out, HOk.out, HBk.out⟩
end Go.Proofs.Ytnioecigjpifnaa
