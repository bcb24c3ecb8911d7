/-
  The pairs of marks whose labels overlap: the program and the reference.
-/
import Derived.Test.YtiledenbgdeglaaDoorMk4
import Derived.Test.YtiledenbgdeglaaDoorGrA
import Derived.Deep.RegionHeld3
import Derived.Deep.DeepCutAuto
namespace Go.Proofs.YtiledenbgdeglaaDoor
open Go.RowKit
set_option maxRecDepth 100000
set_option linter.unusedVariables false
set_option linter.unusedSimpArgs false
/-- the pairs of i with later ones below k -/
def prK (f : Nat → Nat → Bool) (i : Nat) : Nat → List (List Int)
  | 0 => []
  | k + 1 => prK f i k ++ if decide (i < k) && f i k then [[(i : Int), (k : Int)]] else []
def prN (f : Nat → Nat → Bool) (n : Nat) : Nat → List (List Int)
  | 0 => []
  | i + 1 => prN f n i ++ prK f i n
theorem prK_low (f : Nat → Nat → Bool) (i : Nat) : ∀ k, k ≤ i + 1 → prK f i k = []
  | 0, _ => rfl
  | k + 1, h => by
    unfold prK
    rw [prK_low f i k (by omega), decide_eq_false (by omega)]; rfl
theorem prK_yes {f : Nat → Nat → Bool} {i k : Nat} (h : i < k) (hf : f i k = true) : prK f i k ++ [[(i : Int), (k : Int)]] = prK f i (k + 1) := by
  conv => rhs; unfold prK
  rw [decide_eq_true h, hf]; rfl
theorem prK_no {f : Nat → Nat → Bool} {i k : Nat} (hf : f i k = false) : prK f i k = prK f i (k + 1) := by
  conv => rhs; unfold prK
  rw [hf]; simp
theorem prK_congr {f g : Nat → Nat → Bool} {i : Nat} : ∀ k, (∀ j, j < k → f i j = g i j) → prK f i k = prK g i k
  | 0, _ => rfl
  | k + 1, h => by
    unfold prK
    rw [prK_congr k fun j hj => h j (by omega), h k (by omega)]
theorem prN_congr {f g : Nat → Nat → Bool} {n : Nat} : ∀ m, (∀ i j, i < m → j < n → f i j = g i j) → prN f n m = prN g n m
  | 0, _ => rfl
  | m + 1, h => by
    unfold prN
    rw [prN_congr m fun i j hi hj => h i j (by omega) hj, prK_congr n fun j hj => h m j (by omega) hj]
theorem owNew2 (w : World) (p q : Int) (t : TypeId) : Ow eI 1 (w.alloc (.cells #[.int .i64 p, .int .i64 q] t)) w.heap.size t (.slice (some ⟨w.heap.size, 0, none⟩) 2 2) 2 [p, q] := by
  refine ⟨by simp [eI], .inr ⟨w.heap.size, 2, #[.int .i64 p, .int .i64 q], rfl, Nat.le_refl _, heap_alloc_new w _, Nat.le_refl _, by simp [maxLen], by simp, by simp [eI]⟩⟩
set_option maxHeartbeats 4000000 in
theorem pairs_any (f : Nat → Nat → Bool) (n : Nat) (fn : FuncId) (cs : Array Value) (w : World) (hn : n ≤ 31)
    (hcf : ∀ (args : Array Value) (wx : World), (callFunc fn args).run Tryd.prog wx = .ok (.enter fn args) wx)
    (hf : ∀ (i k : Nat) (w' : World), i < n → k < n → Below w.heap.size w w' → Calls Tryd.prog fn (#[.int .i64 i, .int .i64 k] ++ cs) w' fun e w'' => e = .returned (.bool (f i k)) ∧ Below w'.heap.size w' w'') :
    Calls Tryd.prog 52 #[.int .i64 n, .func (.func fn) #[] cs] w fun e w' => ∃ (a' : Option Addr) (m' c' : Nat) (rs : List GRow), e = .returned (.slice a' m' c') ∧ rs.length = m' ∧ rs.map GRow.xs = prN f n n ∧ GrR w' a' rs ∧ Below w.heap.size w w' := by
  have HF := Lib.hid hf
  have hG := Ow.built GRow.enc 1 w 26
  have hbA := below_built w 26
  obtain ⟨wA, hwA⟩ : ∃ wx, w.alloc (.cells #[] 26) = wx := ⟨_, rfl⟩
  obtain ⟨B, hB⟩ : ∃ B, w.heap.size = B := ⟨_, rfl⟩
  have hBA : B ≤ wA.heap.size := by rw [← hwA, ← hB]; simp
  rw [hwA] at hG hbA
  rw [hB] at hG hbA
  have HG0 : Hid (GrA wA B (.slice (some ⟨B, 0, none⟩) 0 0) 0 []) := Lib.hid ⟨hG, fun r hr => by cases hr⟩
  have HB0 := Lib.hid hbA
  have HWA := Lib.hid hwA
  have HBB := Lib.hid hB
  clear hG hbA hwA hB hf
  go_enter Tryd.func52, Tryd.ntmps52
  go_upto_region 2 with (fail)
  rw [HWA.out, HBB.out]
  clear HWA
  go_wp2_with fail
  go_loopw [5, 6, 7, 10] (fun lv z1 z2 iv wr => ∃ (i q : Nat) (a' : Option Addr) (c' : Nat) (rs : List GRow), z1 = z1 ∧ z2 = z2 ∧ i ≤ n ∧ iv = .int .i64 i ∧ lv = .slice a' q c' ∧ q ≤ i * 31 ∧ Hid (rs.map GRow.xs = prN f n i) ∧ Hid (GrA wr B (.slice a' q c') q rs) ∧ B ≤ wr.heap.size ∧ Hid (Below B w wr)) (fun _ _ _ iv _ => n - (intOf iv).toNat)
  case atStart => exact ⟨0, 0, _, _, [], by trivial, by trivial, Nat.zero_le _, rfl, rfl, by omega, Lib.hid rfl, HG0, hBA, HB0⟩
  case round =>
  obtain ⟨i, q, a', c', rs, -, -, hi, rfl, rfl, hq, HM, HG, hBr, HBi⟩ := hrel
  obtain ⟨w1, hw1⟩ : ∃ wx, wx = wr := ⟨_, rfl⟩
  subst hw1
  clear HG0 HB0 hBA
  by_cases hlt : i < n
  · have HM0 : Hid (rs.map GRow.xs = prN f n i ++ prK f i (i + 1)) := Lib.hid (by rw [HM.out, prK_low f i (i + 1) (Nat.le_refl _), List.append_nil])
    have i1 : IntKind.i64.wrap ((i : Int) + 1) = (i : Int) + 1 := IntWalk.i64_in _ (by omega)
    go_wp2_with fail
    go_loopw [5, 7] (fun lv kv wr => ∃ (k q : Nat) (kz : Int) (a' : Option Addr) (c' : Nat) (rs : List GRow), i + 1 ≤ k ∧ k ≤ n ∧ Hid (kz = (k : Int)) ∧ kv = .int .i64 kz ∧ lv = .slice a' q c' ∧ q ≤ i * 31 + k ∧ Hid (rs.map GRow.xs = prN f n i ++ prK f i k) ∧ Hid (GrA wr B (.slice a' q c') q rs) ∧ B ≤ wr.heap.size ∧ Hid (Below B w wr)) (fun _ kv _ => n - (intOf kv).toNat)
    case atStart => exact ⟨i + 1, q, _, a', c', rs, Nat.le_refl _, by omega, Lib.hid (by omega), rfl, rfl, by omega, HM0, HG, hBr, HBi⟩
    case round =>
    clear HM0 HM HG hBr HBi hq i1
    obtain ⟨k, q, kz, a', c', rs, hik, hk, HK, rfl, rfl, hq, HM, HG, hBr, HBi⟩ := hrel
    obtain ⟨w1, hw1⟩ : ∃ wx, wx = wr := ⟨_, rfl⟩
    subst hw1
    obtain rfl := HK.out
    clear HK
    by_cases hkn : k < n
    · obtain ⟨b, hb⟩ : ∃ b, f i k = b := ⟨_, rfl⟩
      have HBV := Lib.hid hb
      have HC := Lib.hid (HF.out i k w1 hlt hkn (by rw [HBB.out]; exact HBi.out))
      rw [hb] at HC
      clear hb
      have i2 : IntKind.i64.wrap ((k : Int) + 1) = (k : Int) + 1 := IntWalk.i64_in _ (by omega)
      cases b with
      | false =>
        have HM2 : Hid (rs.map GRow.xs = prN f n i ++ prK f i (k + 1)) := Lib.hid (by rw [HM.out, prK_no HBV.out])
        go_wp2_with fail
        refine HC.out.mono ?_
        rintro e w2 ⟨rfl, hb2⟩
        have HG2 := Lib.hid (HG.out.below hb2)
        have HB2 := Lib.hid (HBi.out.trans (hb2.mono hBr))
        have hB2 : B ≤ w2.heap.size := Nat.le_trans hBr hb2.size
        clear hb2
        go_wp2_with fail
        go_roundw
        case rel => exact ⟨k + 1, q, (k : Int) + 1, a', c', rs, by omega, by omega, Lib.hid (by omega), rfl, rfl, by omega, HM2, HG2, hB2, HB2⟩
        case measure => simp [intOf]; omega
      | true =>
        go_wp2_with fail
        refine HC.out.mono ?_
        rintro e w2 ⟨rfl, hb2⟩
        have HG2 := Lib.hid (HG.out.below hb2)
        have HB2 := Lib.hid (HBi.out.trans (hb2.mono hBr))
        have hB2 : B ≤ w2.heap.size := Nat.le_trans hBr hb2.size
        clear hb2
        have hrow := (owNew2 w2 (i : Int) (k : Int) 2).mono hB2
        have hbx := (Below.refl w2.heap.size w2).alloc (Nat.le_refl _) (.cells #[.int .i64 (i : Int), .int .i64 (k : Int)] 2)
        have hsz3 : Hid ((w2.alloc (.cells #[.int .i64 (i : Int), .int .i64 (k : Int)] 2)).heap.size = w2.heap.size + 1) := Lib.hid (by simp)
        have HG3 := Lib.hid (HG2.out.below hbx)
        have HB3 := Lib.hid (HB2.out.trans (hbx.mono hB2))
        have hB3 : B ≤ (w2.alloc (.cells #[.int .i64 (i : Int), .int .i64 (k : Int)] 2)).heap.size := Nat.le_trans hB2 hbx.size
        have HR3 : Hid (Ow eI 1 (w2.alloc (.cells #[.int .i64 (i : Int), .int .i64 (k : Int)] 2)) B 2 (.slice (GRow.mk (some ⟨w2.heap.size, 0, none⟩) 2 2 [(i : Int), (k : Int)]).a 2 2) 2 [(i : Int), (k : Int)]) := Lib.hid hrow
        obtain ⟨ys, hys⟩ : ∃ ys, rs ++ [(⟨some ⟨w2.heap.size, 0, none⟩, 2, 2, [(i : Int), (k : Int)]⟩ : GRow)] = ys := ⟨_, rfl⟩
        have HYS := Lib.hid hys
        have HM2 : Hid (ys.map GRow.xs = prN f n i ++ prK f i (k + 1)) := Lib.hid (by rw [← hys, List.map_append, HM.out, ← prK_yes (by omega) HBV.out, List.append_assoc]; rfl)
        have h63 : q + 1 ≤ maxLen := by unfold maxLen; omega
        have hby : (q + 1) * 24 ≤ 140737488355328 := by omega
        clear hrow hbx hys HG2 HB2
        go_wp2_with (at_builtin; refine wpl_appH GRow.len (by decide) _ rfl (.tmp 24) (.tmp 28) 31 rfl 26 _ 24 rfl Tryd.underlying31 infoGRow B (.slice a' q c') q _ rfl (w2.alloc (.cells #[.int .i64 (i : Int), .int .i64 (k : Int)] 2)) _ _ rfl HG3.out.out (⟨some ⟨w2.heap.size, 0, none⟩, 2, 2, [(i : Int), (k : Int)]⟩ : GRow) (by rw [hsz3.out]; rfl) rfl (GRow.one _) h63 hby hB3 ys HYS ?_)
        intro a6 c6 w6 ho6 hb6 hs6 hk6
        have HG6 : Hid (GrA w6 B (.slice a6 (q + 1) c6) (q + 1) ys) := Lib.hid (by rw [← HYS.out] at ho6 ⊢; exact HG3.out.app HR3.out ho6 (fun b hb hne => hk6 b (by rw [hsz3.out] at hb; exact hb) hne))
        have HB6 := Lib.hid (HB3.out.trans hb6)
        have hB6 : B ≤ w6.heap.size := by omega
        clear ho6 hb6 hk6
        go_wp2_with fail
        go_roundw
        case rel => exact ⟨k + 1, q + 1, (k : Int) + 1, a6, c6, ys, by omega, by omega, Lib.hid (by omega), rfl, rfl, by omega, HM2, HG6, hB6, HB6⟩
        case measure => simp [intOf]; omega
    · obtain rfl : n = k := by omega
      have HM2 : Hid (rs.map GRow.xs = prN f n (i + 1)) := Lib.hid HM.out
      go_wp2_with fail
      go_roundw
      case rel => exact ⟨i + 1, q, a', c', rs, by trivial, by trivial, by omega, by go_num, rfl, by omega, HM2, HG, hBr, HBi⟩
      case measure => simp [intOf]; omega
  · obtain rfl : n = i := by omega
    have HR := Lib.hid HG.out.rd
    have HLN := Lib.hid (HG.out.out.len GRow.len (by decide))
    go_wp2_with fail
    go_ret
    exact ⟨a', q, c', rs, rfl, HLN.out, HM.out, HR.out, by rw [HBB.out]; exact HBi.out⟩
end Go.Proofs.YtiledenbgdeglaaDoor
