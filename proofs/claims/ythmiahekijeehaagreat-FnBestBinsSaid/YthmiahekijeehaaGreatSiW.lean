/-
  The library's stable sort at numbers: walks.
-/
import Derived.Test.YthmiahekijeehaaGreatSyP
import Derived.Test.YthmiahekijeehaaGreatSrt
import Derived.Test.YthmiahekijeehaaGreatBx
import Derived.Test.YthmiahekijeehaaGreatQTail
import Derived.Test.YthmiahekijeehaaGreatErr0
import Derived.Deep.RegionHeld3
import Derived.Deep.Cut
import Derived.BigQuiet
import Derived.BigRegion
namespace Go.Proofs.YthmiahekijeehaaGreat
open Go.RowKit
set_option maxRecDepth 100000
set_option linter.unusedVariables false
set_option linter.unusedSimpArgs false
/-- the numbers that a property holds of -/
structure Ix (P0 : Int → Prop) where
  val : Int
  ok : P0 val
variable {P0 : Int → Prop}
def eF (x : Ix P0) : List Value := [.int .i64 x.1]
theorem eF_len (x : Ix P0) : (eF x).length = 1 := rfl
def cmpI (x y : Int) : Int := if x < y then -1 else if y < x then 1 else 0
def slR (key : Ix P0 → Int) (x y : Ix P0) : Prop := key x < key y ∨ key x = key y ∧ x.1 < y.1
theorem SyI.step' {E : Type} {key : E → Int} {R : E → E → Prop} {X L : List E} {i m : Nat} {x p : E} (h : SyI key R X L i x m) (hm : 0 < m) (hp : L[m - 1]? = some p) (hlt : key x < key p) : SyI key R X ((L.set m p).set (m - 1) x) i x (m - 1) := by
  obtain ⟨q, rfl⟩ : ∃ q, m = q + 1 := ⟨m - 1, by omega⟩
  exact h.step hp hlt
theorem keyR (key : Ix P0 → Int) (x y : Ix P0) (h : slR key x y) : key x ≤ key y := by unfold slR at h; omega
theorem ordF_all (key : Ix P0 → Int) {X : List (Ix P0)} (h : X.Pairwise fun a b => a.1 < b.1) : X.Pairwise (OrdQ key (slR key)) := h.imp fun hab => by unfold OrdQ slR; omega
theorem flatF_set : ∀ (L : List (Ix P0)) (i : Nat) (y : Ix P0), (L.flatMap eF).set i (.int .i64 y.1) = (L.set i y).flatMap eF
  | [], i, y => by simp
  | x :: L, 0, y => by simp [eF]
  | x :: L, i + 1, y => by
    have := flatF_set L i y
    simp only [List.flatMap_cons, eF, List.singleton_append, List.set_cons_succ]
    rw [this]
theorem Ow.cellF {w : World} {base e g n cap : Nat} {xs : List (Ix P0)} (h : Ow eF 1 w base e (.slice (some ⟨g, 0, none⟩) n cap) n xs) {i : Nat} {x : Ix P0} (hx : xs[i]? = some x) : w.cell? ⟨g, i, none⟩ = some (.int .i64 x.1) := by
  have hi : i < n := by rw [← h.len eF_len (by decide)]; exact (List.getElem?_eq_some_iff.1 hx).1
  have h0 := World.ownsRow.cellAt h i (by omega)
  have f0 := flat_get eF_len xs i x 0 hx (by decide)
  rw [h0]
  rw [Nat.mul_one, Nat.add_zero] at f0
  rw [f0]
  rfl
theorem Ow.setF {w : World} {base e g n cap : Nat} {xs : List (Ix P0)} (h : Ow eF 1 w base e (.slice (some ⟨g, 0, none⟩) n cap) n xs) (i : Nat) (x : Ix P0) : Ow eF 1 (w.setCell ⟨g, i, none⟩ (.int .i64 x.1)) base e (.slice (some ⟨g, 0, none⟩) n cap) n (xs.set i x) := by
  have := (World.ownsRow.stored h i (.int .i64 x.1)).1
  rw [flatF_set] at this
  exact this
theorem Ow.frozF {w : World} {base e g n cap : Nat} {xs : List (Ix P0)} (h : Ow eF 1 w base e (.slice (some ⟨g, 0, none⟩) n cap) n xs) (m : Nat) : w.frozen? ⟨g, m, none⟩ = false := World.ownsRow.frozenAt h m
theorem Ow.drewF {w : World} {base e g n cap : Nat} {xs : List (Ix P0)} (h : Ow eF 1 w base e (.slice (some ⟨g, 0, none⟩) n cap) n xs) : Ow eF 1 w.drew base e (.slice (some ⟨g, 0, none⟩) n cap) n xs := h.below (Below.refl _ _).drew
theorem set_otherF {L : List (Ix P0)} {a b : Nat} {y : Ix P0} (h : L[b]? = some y) : (L.set a y)[b]? = some y := by
  by_cases e : a = b
  · subst e
    rw [List.getElem?_set_self (List.getElem?_eq_some_iff.1 h).1]
  · rw [List.getElem?_set_ne e]; exact h
/-- what is asked of the comparison -/
def CmpF (key : Ix P0 → Int) (gb B : Nat) (w : World) : Prop :=
  ∀ (x y : Ix P0) (w' : World), Below B w w' → Calls Tryz.prog 95 #[.int .i64 x.1, .int .i64 y.1, .pointer (some ⟨gb, 0, none⟩)] w' fun e w'' => e = .returned (.int .i64 (cmpI (key x) (key y))) ∧ Below w'.heap.size w' w''
theorem CmpF.below {key : Ix P0 → Int} {gb B : Nat} {w w' : World} (h : CmpF key gb B w) (hb : Below B w w') : CmpF key gb B w' := fun x y w2 h2 => h x y w2 (hb.trans h2)
set_option maxHeartbeats 4000000 in
theorem swapW (P I M J S : List (Ix P0)) (g n c B0 a b k : Nat) (fv : Value) (w : World) (hg0 : B0 ≤ g) (hn : n ≤ 100000) (ha : P.length = a) (hb : P.length + k + M.length = b) (hI : I.length = k) (hJ : J.length = k) (ho : Ow eF 1 w B0 2 (.slice (some ⟨g, 0, none⟩) n c) n (P ++ (I ++ (M ++ (J ++ S))))) :
    Calls Tryz.prog 103 #[.slice (some ⟨g, 0, none⟩) n c, .int .i64 a, .int .i64 b, .int .i64 k, fv] w fun e w' => e = .returned (.tuple #[]) ∧ Ow eF 1 w' B0 2 (.slice (some ⟨g, 0, none⟩) n c) n (P ++ (J ++ (M ++ (I ++ S)))) ∧ Below B0 w w' := by
  have hlen := ho.len eF_len (by decide)
  simp only [List.length_append] at hlen
  have HA := Lib.hid ha
  have HB := Lib.hid hb
  have HI := Lib.hid hI
  have HJ := Lib.hid hJ
  have han : a + k ≤ n := by omega
  have hbn : b + k ≤ n := by omega
  have HO := Lib.hid ho
  clear ho ha hb hI hJ hlen
  go_enter Tryz.func103, Tryz.ntmps103
  go_wp2_with fail
  go_loopw [10] (fun i wr => ∃ m : Nat, m ≤ k ∧ i = .int .i64 m ∧ Hid (Ow eF 1 wr B0 2 (.slice (some ⟨g, 0, none⟩) n c) n (SwpL P I M J S m)) ∧ Hid (Below B0 w wr)) (fun i _ => k - (intOf i).toNat)
  case atStart => exact ⟨0, Nat.zero_le _, rfl, Lib.hid (by rw [SwpL.zero]; exact HO.out), Lib.hid (Below.refl _ _)⟩
  case round =>
    obtain ⟨m, hm, rfl, HOk, HBk⟩ := hrel
    obtain ⟨wq, hwq⟩ : ∃ wx, wx = wr := ⟨_, rfl⟩
    subst hwq
    by_cases hlt : m < k
    · obtain ⟨A, hAA⟩ : ∃ z, a + m = z := ⟨_, rfl⟩
      obtain ⟨B, hBB⟩ : ∃ z, b + m = z := ⟨_, rfl⟩
      obtain ⟨x, hx⟩ : ∃ z, (SwpL P I M J S m)[A]? = some z := ⟨_, by rw [← hAA]; exact SwpL.getA HA.out HI.out HJ.out hlt⟩
      obtain ⟨y, hy⟩ : ∃ z, (SwpL P I M J S m)[B]? = some z := ⟨_, by rw [← hBB]; exact SwpL.getB HB.out HI.out HJ.out hlt⟩
      have HST := Lib.hid (SwpL.step HA.out HB.out HI.out HJ.out hlt (by rw [hAA]; exact hx) (by rw [hBB]; exact hy))
      rw [hAA, hBB] at HST
      have HX := Lib.hid hx
      have HY := Lib.hid hy
      clear hx hy
      have ia : IntKind.i64.wrap ((a : Int) + (m : Int)) = (A : Int) := by rw [show (a : Int) + (m : Int) = (A : Int) by omega]; exact IntWalk.i64_in _ (by omega)
      have ib : IntKind.i64.wrap ((b : Int) + (m : Int)) = (B : Int) := by rw [show (b : Int) + (m : Int) = (B : Int) by omega]; exact IntWalk.i64_in _ (by omega)
      have jp0 : (0 : Int) ≤ (A : Nat) := by omega
      have jp1 : ((A : Nat) : Int) < n := by omega
      have jq0 : (0 : Int) ≤ (B : Nat) := by omega
      have jq1 : ((B : Nat) : Int) < n := by omega
      have cp0 : wq.cell? ⟨g, A, none⟩ = some (.int .i64 x.1) := HOk.out.cellF HX.out
      have cq0 : wq.cell? ⟨g, B, none⟩ = some (.int .i64 y.1) := HOk.out.cellF HY.out
      have fp0 : wq.frozen? ⟨g, A, none⟩ = false := HOk.out.frozF A
      have fq0 : wq.frozen? ⟨g, B, none⟩ = false := HOk.out.frozF B
      have HO1 := Lib.hid (HOk.out.setF A y)
      have cm1 := HO1.out.cellF (set_otherF (a := A) HY.out)
      have fm1 := HO1.out.frozF B
      clear HO1
      have HOn := Lib.hid (Ow.drewF ((HOk.out.setF A y).setF B x))
      have HBn := Lib.hid ((HBk.out.setCell (p := ⟨g, A, none⟩) hg0 (.int .i64 y.1)).setCell (p := ⟨g, B, none⟩) hg0 (.int .i64 x.1)).drew
      go_upto_region 3 with (fail)
      go_big_region
      obtain ⟨wn, hwn⟩ : ∃ wx, (((wq.setCell ⟨g, A, none⟩ (.int .i64 y.1)).setCell ⟨g, B, none⟩ (.int .i64 x.1)).drew) = wx := ⟨_, rfl⟩
      rw [hwn] at HOn HBn ⊢
      clear hwn cp0 cq0 fp0 fq0 cm1 fm1 jp0 jp1 jq0 jq1
      clear ia ib hAA hBB
      rw [HST.out] at HOn
      go_wp2_with fail
      go_roundw
      case rel => exact ⟨m + 1, by omega, by go_num, HOn, HBn⟩
      case measure => simp [intOf]; omega
    · have hmk : m = k := by omega
      have HF := Lib.hid (SwpL.full (P := P) (M := M) (S := S) HI.out HJ.out)
      go_wp2_with fail
      go_end0
      exact ⟨rfl, by rw [← HF.out, ← hmk]; exact HOk.out, HBk.out⟩
set_option maxHeartbeats 4000000 in
theorem rotW (P I J S : List (Ix P0)) (g n c B0 a m b : Nat) (fv : Value) (w : World) (hg0 : B0 ≤ g) (hn : n ≤ 100000) (ha : P.length = a) (hI : a + I.length = m) (hJ : m + J.length = b) (h1 : 1 ≤ I.length) (h2 : 1 ≤ J.length) (ho : Ow eF 1 w B0 2 (.slice (some ⟨g, 0, none⟩) n c) n (P ++ (I ++ (J ++ S)))) :
    Calls Tryz.prog 102 #[.slice (some ⟨g, 0, none⟩) n c, .int .i64 a, .int .i64 m, .int .i64 b, fv] w fun e w' => e = .returned (.tuple #[]) ∧ Ow eF 1 w' B0 2 (.slice (some ⟨g, 0, none⟩) n c) n (P ++ (J ++ (I ++ S))) ∧ Below B0 w w' := by
  have hlen := ho.len eF_len (by decide)
  simp only [List.length_append] at hlen
  have hbn : b ≤ n := by omega
  obtain ⟨i0, hi0⟩ : ∃ z, I.length = z := ⟨_, rfl⟩
  obtain ⟨j0, hj0⟩ : ∃ z, J.length = z := ⟨_, rfl⟩
  have HQ : Hid (RotQ (P ++ (J ++ (I ++ S))) (P ++ (I ++ (J ++ S))) P I J S m i0 j0) := Lib.hid ⟨rfl, rfl, by omega, hi0, hj0⟩
  have HO := Lib.hid ho
  have ia : IntKind.i64.wrap ((m : Int) - (a : Int)) = (i0 : Int) := by rw [show (m : Int) - (a : Int) = (i0 : Int) by omega]; exact IntWalk.i64_in _ (by omega)
  have ib : IntKind.i64.wrap ((b : Int) - (m : Int)) = (j0 : Int) := by rw [show (b : Int) - (m : Int) = (j0 : Int) by omega]; exact IntWalk.i64_in _ (by omega)
  have h1' : 1 ≤ i0 := by omega
  have h2' : 1 ≤ j0 := by omega
  have hmn : m ≤ n := by omega
  clear ho ha hI hJ h1 h2 hlen hi0 hj0
  go_enter Tryz.func102, Tryz.ntmps102
  go_wp2_with fail
  go_loopw [10, 11] (fun vi vj wr => ∃ (i j : Nat) (L P' I' J' S' : List (Ix P0)), vi = .int .i64 i ∧ vj = .int .i64 j ∧ 1 ≤ i ∧ 1 ≤ j ∧ Hid (RotQ (P ++ (J ++ (I ++ S))) L P' I' J' S' m i j) ∧ Hid (Ow eF 1 wr B0 2 (.slice (some ⟨g, 0, none⟩) n c) n L) ∧ Hid (Below B0 w wr)) (fun vi vj _ => (intOf vi).toNat + (intOf vj).toNat)
  case atStart => exact ⟨i0, j0, _, _, _, _, _, rfl, rfl, h1', h2', HQ, HO, Lib.hid (Below.refl _ _)⟩
  case round =>
    obtain ⟨i, j, L, P', I', J', S', rfl, rfl, hi1, hj1, HR, HOk, HBk⟩ := hrel
    obtain ⟨wq, hwq⟩ : ∃ wx, wx = wr := ⟨_, rfl⟩
    subst hwq
    have hp := HR.out.p
    have hll := HOk.out.len eF_len (by decide)
    have hL := HR.out.l
    rw [hL] at hll
    simp only [List.length_append] at hll
    have hIl := HR.out.i_
    have hJl := HR.out.j_
    have hjn : j ≤ n := by omega
    obtain ⟨pa, hpa⟩ : ∃ z, P'.length = z := ⟨_, rfl⟩
    have hpm : pa + i = m := by omega
    have HPA := Lib.hid hpa
    have HLL := Lib.hid hL
    have HIl := Lib.hid hIl
    have HJl := Lib.hid hJl
    have id : IntKind.i64.wrap ((m : Int) - (i : Int)) = (pa : Int) := by rw [show (m : Int) - (i : Int) = (pa : Int) by omega]; exact IntWalk.i64_in _ (by omega)
    clear hll hL hIl hJl hpa hp ia ib
    by_cases hne : i = j
    · have dne : ((i : Int) != (j : Int)) = false := by rw [hne]; simp
      have dnn : (i != j) = false := by rw [hne]; simp
      have CS := Lib.hid (swapW P' I' [] J' S' g n c B0 pa m i fv wq hg0 hn HPA.out (by rw [HPA.out]; simp; omega) HIl.out (by rw [HJl.out]; omega) (by rw [List.nil_append, ← HLL.out]; exact HOk.out))
      clear hne
      go_wp2_with fail
      refine (CS.out).mono ?_
      rintro e w9 ⟨rfl, ho9, hb9⟩
      have HO9 := Lib.hid ho9
      have HB9 := Lib.hid (HBk.out.trans hb9)
      clear ho9 hb9 CS
      go_wp2_with fail
      go_end0
      exact ⟨rfl, by rw [HR.out.t]; have h9 := HO9.out; rw [List.nil_append] at h9; exact h9, HB9.out⟩
    · have dne : ((i : Int) != (j : Int)) = true := bne_iff_ne.2 (by omega)
      have dnn : (i != j) = true := bne_iff_ne.2 hne
      by_cases hij : j < i
      · have dij : decide ((j : Int) < (i : Int)) = true := decide_eq_true (by omega)
        have dijn : decide (j < i) = true := decide_eq_true hij
        obtain ⟨I1, I2, hI12, hI1, hL1, hR1⟩ := HR.out.big hij
        have hI2 : I2.length = i - j := hR1.i_
        have CS := Lib.hid (swapW P' I1 I2 J' S' g n c B0 pa m j fv wq hg0 hn HPA.out (by rw [HPA.out, hI2]; omega) hI1 HJl.out (by rw [← hL1]; exact HOk.out))
        have HR1 := Lib.hid hR1
        have ie : IntKind.i64.wrap ((i : Int) - (j : Int)) = ((i - j : Nat) : Int) := by rw [show (i : Int) - (j : Int) = ((i - j : Nat) : Int) by omega]; exact IntWalk.i64_in _ (by omega)
        clear hI12 hI1 hL1 hR1 hI2
        go_wp2_with fail
        refine (CS.out).mono ?_
        rintro e w9 ⟨rfl, ho9, hb9⟩
        have HO9 := Lib.hid ho9
        have HB9 := Lib.hid (HBk.out.trans hb9)
        clear ho9 hb9 CS
        go_wp2_with fail
        go_roundw
        case rel => exact ⟨i - j, j, _, _, _, _, _, rfl, rfl, by omega, hj1, HR1, HO9, HB9⟩
        case measure => simp [intOf]; omega
      · have dij : decide ((j : Int) < (i : Int)) = false := decide_eq_false (by omega)
        have dijn : decide (j < i) = false := decide_eq_false hij
        obtain ⟨J1, J2, hJ12, hJ2, hL1, hR1, hJ1⟩ := HR.out.small (by omega)
        obtain ⟨pb, hpb⟩ : ∃ z, m + j - i = z := ⟨_, rfl⟩
        have CS := Lib.hid (swapW P' I' J1 J2 S' g n c B0 pa pb i fv wq hg0 hn HPA.out (by rw [HPA.out, hJ1]; omega) HIl.out hJ2 (by rw [← hL1]; exact HOk.out))
        have HR1 := Lib.hid hR1
        have ie : IntKind.i64.wrap ((j : Int) - (i : Int)) = ((j - i : Nat) : Int) := by rw [show (j : Int) - (i : Int) = ((j - i : Nat) : Int) by omega]; exact IntWalk.i64_in _ (by omega)
        have ig : IntKind.i64.wrap ((m : Int) + (j : Int)) = (m : Int) + (j : Int) := IntWalk.i64_in _ (by omega)
        have ih : IntKind.i64.wrap ((m : Int) + (j : Int) - (i : Int)) = (pb : Int) := by rw [show (m : Int) + (j : Int) - (i : Int) = (pb : Int) by omega]; exact IntWalk.i64_in _ (by omega)
        clear hJ12 hJ1 hL1 hR1 hJ2
        go_wp2_with fail
        refine (CS.out).mono ?_
        rintro e w9 ⟨rfl, ho9, hb9⟩
        have HO9 := Lib.hid ho9
        have HB9 := Lib.hid (HBk.out.trans hb9)
        clear ho9 hb9 CS
        go_wp2_with fail
        go_roundw
        case rel => exact ⟨i, j - i, _, _, _, _, _, rfl, rfl, hi1, by omega, HR1, HO9, HB9⟩
        case measure => simp [intOf]; omega
set_option maxHeartbeats 4000000 in
theorem insW (key : Ix P0 → Int) (gb : Nat) (A Y B : List (Ix P0)) (g n c B0 a b : Nat) (w : World) (hc : CmpF key gb B0 w) (hY : Y.Pairwise (OrdQ key (slR key))) (hB0 : B0 ≤ w.heap.size) (hg0 : B0 ≤ g) (hn : n ≤ 100000) (ha : A.length = a) (hb : a + Y.length = b) (ho : Ow eF 1 w B0 2 (.slice (some ⟨g, 0, none⟩) n c) n (A ++ (Y ++ B))) :
    Calls Tryz.prog 100 #[.slice (some ⟨g, 0, none⟩) n c, .int .i64 a, .int .i64 b, .func (.func 95) #[] #[.pointer (some ⟨gb, 0, none⟩)]] w fun e w' => e = .returned (.tuple #[]) ∧ ∃ M, SyD (slR key) Y M ∧ Ow eF 1 w' B0 2 (.slice (some ⟨g, 0, none⟩) n c) n (A ++ (M ++ B)) ∧ Below B0 w w' := by
  have hlen := ho.len eF_len (by decide)
  simp only [List.length_append] at hlen
  have hbn : b ≤ n := by omega
  obtain ⟨q, hq⟩ : ∃ z, Y.length = z := ⟨_, rfl⟩
  have hab : a + q = b := by omega
  have HA := Lib.hid ha
  have HY := Lib.hid hq
  have HO := Lib.hid ho
  have HC := Lib.hid hc
  have HYP := Lib.hid hY
  have i0 : IntKind.i64.wrap ((a : Int) + 1) = (a : Int) + 1 := IntWalk.i64_in _ (by omega)
  clear ho ha hb hlen hq hc hY
  go_enter Tryz.func100, Tryz.ntmps100
  go_wp2_with fail
  go_loopw [8] (fun i wr => ∃ (k : Nat) (L : List (Ix P0)), 1 ≤ k ∧ k ≤ q + 1 ∧ i = .int .i64 ((a : Int) + (k : Int)) ∧ Hid (SyO (slR key) Y L k) ∧ Hid (Ow eF 1 wr B0 2 (.slice (some ⟨g, 0, none⟩) n c) n (A ++ (L ++ B))) ∧ Hid (Below B0 w wr)) (fun i _ => b + 1 - (intOf i).toNat)
  case atStart => exact ⟨1, Y, Nat.le_refl _, by omega, by rw [Int.natCast_one], Lib.hid (SyO.first (slR key) Y), HO, Lib.hid (Below.refl _ _)⟩
  case round =>
    obtain ⟨k, L, hk1, hk, rfl, HI, HOk, HBk⟩ := hrel
    clear i0
    obtain ⟨wq0, hwq0⟩ : ∃ wx, wx = wr := ⟨_, rfl⟩
    subst hwq0
    by_cases hlt : k < q
    · have d0 : decide ((a : Int) + (k : Int) < (b : Int)) = true := decide_eq_true (by omega)
      have ix : IntKind.i64.wrap ((a : Int) + (k : Int) + 1) = (a : Int) + (k : Int) + 1 := IntWalk.i64_in _ (by omega)
      obtain ⟨x, hx⟩ : ∃ z, Y[k]? = some z := ⟨_, List.getElem?_eq_getElem (by rw [HY.out]; exact hlt)⟩
      have HX := Lib.hid hx
      clear hx
      go_wp2_with fail
      go_loopw [9] (fun j wr => ∃ (m : Nat) (L : List (Ix P0)), m ≤ k ∧ j = .int .i64 ((a + m : Nat) : Int) ∧ Hid (SyI key (slR key) Y L k x m) ∧ Hid (Ow eF 1 wr B0 2 (.slice (some ⟨g, 0, none⟩) n c) n (A ++ (L ++ B))) ∧ Hid (Below B0 w wr)) (fun j _ => (intOf j).toNat)
      case atStart => exact ⟨k, L, Nat.le_refl _, by rw [Int.natCast_add], Lib.hid (HI.out.go HYP.out HX.out), HOk, HBk⟩
      case round =>
        obtain ⟨m, Lj, hm, rfl, HJ, HOj, HBj⟩ := hrel
        obtain ⟨wq, hwq⟩ : ∃ wx, wx = wr := ⟨_, rfl⟩
        subst hwq
        obtain ⟨J, hJ⟩ : ∃ z, a + m = z := ⟨_, rfl⟩
        rw [hJ]
        have hLl : Lj.length = q := by rw [← HY.out]; exact HJ.out.len (by rw [HY.out]; exact hlt)
        have hpx : (A ++ (Lj ++ B))[J]? = some x := by rw [← hJ, mid_get HA.out (by omega)]; exact HJ.out.at_
        have HPX := Lib.hid hpx
        clear hpx
        by_cases h0 : 0 < m
        · obtain ⟨p, hp, hpm, hpx⟩ := HJ.out.prev h0
          obtain ⟨K, hK⟩ : ∃ z, J - 1 = z := ⟨_, rfl⟩
          have HPP : Hid ((A ++ (Lj ++ B))[K]? = some p) := Lib.hid (by rw [← hK, ← hJ, show a + m - 1 = a + (m - 1) by omega, mid_get HA.out (by omega)]; exact hp)
          have HP := Lib.hid hp
          have iJ : IntKind.i64.wrap ((J : Int) - 1) = (K : Int) := by rw [show (J : Int) - 1 = (K : Int) by omega]; exact IntWalk.i64_in _ (by omega)
          have dJ : decide ((a : Int) < (J : Int)) = true := decide_eq_true (by omega)
          have dJn : decide (a < J) = true := decide_eq_true (by omega)
          clear hp hpm hpx d0
          by_cases hkk : (key x) < (key p)
          · have HKK := Lib.hid hkk
            have hsz : B0 ≤ wq.heap.size := Nat.le_trans hB0 HBj.out.size
            have HS : Hid (∀ wz, Below wq.heap.size wq wz → wz.cell? ⟨g, J, none⟩ = some (.int .i64 x.1) ∧ wz.cell? ⟨g, K, none⟩ = some (.int .i64 p.1)) := Lib.hid fun wz hz => by
              have h9 := HOj.out.below hz
              exact ⟨h9.cellF HPX.out, h9.cellF HPP.out⟩
            have HD : Hid (Below wq.heap.size wq wq.drew) := Lib.hid (Below.refl _ _).drew
            obtain ⟨cz, hcz⟩ : ∃ z, cmpI (key x) (key p) = z := ⟨_, rfl⟩
            have dcz : decide (cz < 0) = true := by rw [← hcz]; unfold cmpI; rw [if_pos (by omega)]; rfl
            have HCM : Hid (∀ wz, Below wq.heap.size wq wz → Calls Tryz.prog 95 #[.int .i64 x.1, .int .i64 p.1, .pointer (some ⟨gb, 0, none⟩)] wz fun e w'' => e = .returned (.int .i64 cz) ∧ Below wz.heap.size wz w'') := Lib.hid fun wz hz => by
              have h9 := HC.out x p wz (HBj.out.trans (hz.mono hsz))
              rw [hcz] at h9
              exact h9
            clear hcz
            have jp0 : (0 : Int) ≤ (J : Nat) := by omega
            have jp1 : ((J : Nat) : Int) < n := by omega
            have jq0 : (0 : Int) ≤ (K : Nat) := by omega
            have jq1 : ((K : Nat) : Int) < n := by omega
            go_wp2_with fail
            go_region_held3 (fun wz : World => wz.cell? ⟨g, J, none⟩ = some (.int .i64 x.1) ∧ wz.cell? ⟨g, K, none⟩ = some (.int .i64 p.1)) (first | (go_keep; done) | exact HS.out _ HD.out | exact HS.out _ HDz.out | fail) (first | (go_at_call 95; (with_reducible refine (HCM.out _ HD.out).mono ?_); rintro e w1 ⟨rfl, hb1⟩; have HDz : Hid (Below wq.heap.size wq w1) := Lib.hid (HD.out.trans (hb1.mono HD.out.size)); clear hb1))
            have HOz := Lib.hid (HOj.out.below HDz.out)
            have HBz := Lib.hid (HBj.out.trans (HDz.out.mono hsz))
            clear HS HD HDz HCM dcz jp0 jp1 jq0 jq1 hsz
            have HSTx := Lib.hid (HJ.out.step' h0 HP.out HKK.out)
            have HMS : Hid (((A ++ (Lj ++ B)).set J p).set K x = A ++ (((Lj.set m p).set (m - 1) x) ++ B)) := Lib.hid (by
              rw [← hK, ← hJ, mid_set HA.out (by omega), show a + m - 1 = a + (m - 1) by omega, mid_set HA.out (by rw [List.length_set]; omega)])
            clear HJ
            have jp0 : (0 : Int) ≤ (J : Nat) := by omega
            have jp1 : ((J : Nat) : Int) < n := by omega
            have jq0 : (0 : Int) ≤ (K : Nat) := by omega
            have jq1 : ((K : Nat) : Int) < n := by omega
            have cp0 : w1.cell? ⟨g, J, none⟩ = some (.int .i64 x.1) := HOz.out.cellF HPX.out
            have cq0 : w1.cell? ⟨g, K, none⟩ = some (.int .i64 p.1) := HOz.out.cellF HPP.out
            have fp0 : w1.frozen? ⟨g, J, none⟩ = false := HOz.out.frozF J
            have fq0 : w1.frozen? ⟨g, K, none⟩ = false := HOz.out.frozF K
            have HO1 := Lib.hid (HOz.out.setF J p)
            have cm1 := HO1.out.cellF (set_otherF (a := J) HPP.out)
            have fm1 := HO1.out.frozF K
            clear HO1
            have HOn := Lib.hid (Ow.drewF ((HOz.out.setF J p).setF K x))
            have HBn := Lib.hid ((HBz.out.setCell (p := ⟨g, J, none⟩) hg0 (.int .i64 p.1)).setCell (p := ⟨g, K, none⟩) hg0 (.int .i64 x.1)).drew
            go_upto_region 6 with (fail)
            go_big_region
            obtain ⟨wn, hwn⟩ : ∃ wx, (((w1.setCell ⟨g, J, none⟩ (.int .i64 p.1)).setCell ⟨g, K, none⟩ (.int .i64 x.1)).drew) = wx := ⟨_, rfl⟩
            rw [hwn] at HOn HBn ⊢
            clear hwn cp0 cq0 fp0 fq0 cm1 fm1 jp0 jp1 jq0 jq1
            rw [HMS.out] at HOn
            go_wp2_with fail
            go_roundw
            case rel => exact ⟨m - 1, _, by omega, by rw [show a + (m - 1) = K by omega], HSTx, HOn, HBn⟩
            case measure => simp [intOf]; omega
          · have HKK := Lib.hid hkk
            have hsz : B0 ≤ wq.heap.size := Nat.le_trans hB0 HBj.out.size
            have HS : Hid (∀ wz, Below wq.heap.size wq wz → wz.cell? ⟨g, J, none⟩ = some (.int .i64 x.1) ∧ wz.cell? ⟨g, K, none⟩ = some (.int .i64 p.1)) := Lib.hid fun wz hz => by
              have h9 := HOj.out.below hz
              exact ⟨h9.cellF HPX.out, h9.cellF HPP.out⟩
            have HD : Hid (Below wq.heap.size wq wq.drew) := Lib.hid (Below.refl _ _).drew
            obtain ⟨cz, hcz⟩ : ∃ z, cmpI (key x) (key p) = z := ⟨_, rfl⟩
            have dcz : decide (cz < 0) = false := by rw [← hcz]; unfold cmpI; rw [if_neg (by omega)]; split <;> rfl
            have HCM : Hid (∀ wz, Below wq.heap.size wq wz → Calls Tryz.prog 95 #[.int .i64 x.1, .int .i64 p.1, .pointer (some ⟨gb, 0, none⟩)] wz fun e w'' => e = .returned (.int .i64 cz) ∧ Below wz.heap.size wz w'') := Lib.hid fun wz hz => by
              have h9 := HC.out x p wz (HBj.out.trans (hz.mono hsz))
              rw [hcz] at h9
              exact h9
            clear hcz
            have jp0 : (0 : Int) ≤ (J : Nat) := by omega
            have jp1 : ((J : Nat) : Int) < n := by omega
            have jq0 : (0 : Int) ≤ (K : Nat) := by omega
            have jq1 : ((K : Nat) : Int) < n := by omega
            go_wp2_with fail
            go_region_held3 (fun wz : World => wz.cell? ⟨g, J, none⟩ = some (.int .i64 x.1) ∧ wz.cell? ⟨g, K, none⟩ = some (.int .i64 p.1)) (first | (go_keep; done) | exact HS.out _ HD.out | exact HS.out _ HDz.out | fail) (first | (go_at_call 95; (with_reducible refine (HCM.out _ HD.out).mono ?_); rintro e w1 ⟨rfl, hb1⟩; have HDz : Hid (Below wq.heap.size wq w1) := Lib.hid (HD.out.trans (hb1.mono HD.out.size)); clear hb1))
            have HOz := Lib.hid (HOj.out.below HDz.out)
            have HBz := Lib.hid (HBj.out.trans (HDz.out.mono hsz))
            clear HS HD HDz HCM dcz jp0 jp1 jq0 jq1 hsz
            have HIN : Hid (SyO (slR key) Y Lj (k + 1)) := Lib.hid (HJ.out.stop (keyR key) HX.out (.inr ⟨p, HP.out, by have h9 := HKK.out; omega⟩))
            go_wp2_with fail
            go_roundw
            case rel => exact ⟨k + 1, Lj, by omega, by omega, by rw [Int.natCast_add, Int.natCast_one, Int.add_assoc], HIN, HOz, HBz⟩
            case measure => simp [intOf]; omega
        · have hm0 : m = 0 := by omega
          have dJ : decide ((a : Int) < (J : Int)) = false := decide_eq_false (by omega)
          have dJn : decide (a < J) = false := decide_eq_false (by omega)
          have HIN : Hid (SyO (slR key) Y Lj (k + 1)) := Lib.hid (HJ.out.stop (keyR key) HX.out (.inl hm0))
          have hsz : B0 ≤ wq.heap.size := Nat.le_trans hB0 HBj.out.size
          clear hm0 d0
          go_wp2_with fail
          go_quiet (fail)
          have HB4 : Hid (Below wq.heap.size wq (wq.drewN nq)) := Lib.hid (below_drewN (Below.refl _ _) nq)
          obtain ⟨w4, hw4⟩ : ∃ wz, wq.drewN nq = wz := ⟨_, rfl⟩
          rw [hw4] at HB4 ⊢
          have HO4 := Lib.hid (HOj.out.below HB4.out)
          have HBw := Lib.hid (HBj.out.trans (HB4.out.mono hsz))
          clear hw4
          go_wp2_with fail
          go_roundw
          case rel => exact ⟨k + 1, Lj, by omega, by omega, by rw [Int.natCast_add, Int.natCast_one, Int.add_assoc], HIN, HO4, HBw⟩
          case measure => simp [intOf]; omega
    · have d0 : decide ((a : Int) + (k : Int) < (b : Int)) = false := decide_eq_false (by omega)
      have HS := Lib.hid (HI.out.last (by rw [HY.out]; omega))
      go_wp2_with fail
      go_end0
      exact ⟨rfl, L, HS.out, HOk.out, HBk.out⟩
end Go.Proofs.YthmiahekijeehaaGreat
