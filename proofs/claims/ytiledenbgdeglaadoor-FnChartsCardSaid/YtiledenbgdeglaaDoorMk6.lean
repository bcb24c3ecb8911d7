/-
  The pairs of marks whose labels overlap: the program and the reference.
-/
import Derived.Test.YtiledenbgdeglaaDoorMk4
import Derived.Test.YtiledenbgdeglaaDoorGrA
import Derived.Deep.RegionHeld3
import Derived.Deep.DeepCutAuto
namespace Go.Proofs.YtiledenbgdeglaaDoor
open Go.RowKit
set_option maxRecDepth 100000
set_option linter.unusedVariables false
set_option linter.unusedSimpArgs false
/-- the pairs of i with later ones below k -/
def prK (f : Nat → Nat → Bool) (i : Nat) : Nat → List (List Int)
  | 0 => []
  | k + 1 => prK f i k ++ if decide (i < k) && f i k then [[(i : Int), (k : Int)]] else []
def prN (f : Nat → Nat → Bool) (n : Nat) : Nat → List (List Int)
  | 0 => []
  | i + 1 => prN f n i ++ prK f i n
theorem prK_low (f : Nat → Nat → Bool) (i : Nat) : ∀ k, k ≤ i + 1 → prK f i k = []
  | 0, _ => rfl
  | k + 1, h => by
    unfold prK
    rw [prK_low f i k (by omega), decide_eq_false (by omega)]; rfl
theorem prK_yes {f : Nat → Nat → Bool} {i k : Nat} (h : i < k) (hf : f i k = true) : prK f i k ++ [[(i : Int), (k : Int)]] = prK f i (k + 1) := by
  conv => rhs; unfold prK
  rw [decide_eq_true h, hf]; rfl
theorem prK_no {f : Nat → Nat → Bool} {i k : Nat} (hf : f i k = false) : prK f i k = prK f i (k + 1) := by
  conv => rhs; unfold prK
  rw [hf]; simp
theorem prK_congr {f g : Nat → Nat → Bool} {i : Nat} : ∀ k, (∀ j, j < k → f i j = g i j) → prK f i k = prK g i k
  | 0, _ => rfl
  | k + 1, h => by
    unfold prK
    rw [prK_congr k fun j hj => h j (by omega), h k (by omega)]
theorem prN_congr {f g : Nat → Nat → Bool} {n : Nat} : ∀ m, (∀ i j, i < m → j < n → f i j = g i j) → prN f n m = prN g n m
  | 0, _ => rfl
  | m + 1, h => by
    unfold prN
    rw [prN_congr m fun i j hi hj => h i j (by omega) hj, prK_congr n fun j hj => h m j (by omega) hj]
theorem owNew2 (w : World) (p q : Int) (t : TypeId) : Ow eI 1 (w.alloc (.cells #[.int .i64 p, .int .i64 q] t)) w.heap.size t (.slice (some ⟨w.heap.size, 0, none⟩) 2 2) 2 [p, q] := by
  refine ⟨by simp [eI], .inr ⟨w.heap.size, 2, #[.int .i64 p, .int .i64 q], rfl, Nat.le_refl _, heap_alloc_new w _, Nat.le_refl _, by simp [maxLen], by simp, by simp [eI]⟩⟩
set_option maxHeartbeats 4000000 in
theorem pairs_any (f : Nat → Nat → Bool) (n : Nat) (fn : FuncId) (cs : Array Value) (w : World) (hn : n ≤ 31)
    (hcf : ∀ (args : Array Value) (wx : World), (callFunc fn args).run Tryd.prog wx = .ok (.enter fn args) wx)
    (hf : ∀ (i k : Nat) (w' : World), i < n → k < n → Below w.heap.size w w' → Calls Tryd.prog fn (#[.int .i64 i, .int .i64 k] ++ cs) w' fun e w'' => e = .returned (.bool (f i k)) ∧ Below w'.heap.size w' w'') :
    Calls Tryd.prog 52 #[.int .i64 n, .func (.func fn) #[] cs] w fun e w' => ∃ (a' : Option Addr) (m' c' : Nat) (rs : List GRow), e = .returned (.slice a' m' c') ∧ rs.length = m' ∧ rs.map GRow.xs = prN f n n ∧ GrR w' a' rs ∧ Below w.heap.size w w' := by
  have HF := Lib.hid hf
  have hG := Ow.built GRow.enc 1 w 26
  have hbA := below_built w 26
  obtain ⟨wA, hwA⟩ : ∃ wx, w.alloc (.cells #[] 26) = wx := ⟨_, rfl⟩
  obtain ⟨B, hB⟩ : ∃ B, w.heap.size = B := ⟨_, rfl⟩
  have hBA : B ≤ wA.heap.size := by rw [← hwA, ← hB]; simp
  rw [hwA] at hG hbA
  rw [hB] at hG hbA
  have HG0 : Hid (GrA wA B (.slice (some ⟨B, 0, none⟩) 0 0) 0 []) := Lib.hid ⟨hG, fun r hr => by cases hr⟩
  have HB0 := Lib.hid hbA
  have HWA := Lib.hid hwA
  have HBB := Lib.hid hB
  clear hG hbA hwA hB hf
  go_enter Tryd.func52, Tryd.ntmps52
  go_upto_region 2 with (fail)
  rw [HWA.out, HBB.out]
  clear HWA
  go_wp2_with fail
  go_loopw [5, 6, 7, 10] (fun lv z1 z2 iv wr => ∃ (i q : Nat) (a' : Option Addr) (c' : Nat) (rs : List GRow), z1 = z1 ∧ z2 = z2 ∧ i ≤ n ∧ iv = .int .i64 i ∧ lv = .slice a' q c' ∧ q ≤ i * 31 ∧ Hid (rs.map GRow.xs = prN f n i) ∧ Hid (GrA wr B (.slice a' q c') q rs) ∧ B ≤ wr.heap.size ∧ Hid (Below B w wr)) (fun _ _ _ iv _ => n - (intOf iv).toNat)
  case atStart => exact ⟨0, 0, _, _, [], by trivial, by trivial, Nat.zero_le _, rfl, rfl, by omega, Lib.hid rfl, HG0, hBA, HB0⟩
  case round =>
  obtain ⟨i, q, a', c', rs, -, -, hi, rfl, rfl, hq, HM, HG, hBr, HBi⟩ := hrel
  obtain ⟨w1, hw1⟩ : ∃ wx, wx = wr := ⟨_, rfl⟩
  subst hw1
  clear HG0 HB0 hBA
  by_cases hlt : i < n
  · have HM0 : Hid (rs.map GRow.xs = prN f n i ++ prK f i (i + 1)) := Lib.hid (by rw [HM.out, prK_low f i (i + 1) (Nat.le_refl _), List.append_nil])
    have i1 : IntKind.i64.wrap ((i : Int) + 1) = (i : Int) + 1 := IntWalk.i64_in _ (by omega)
    go_wp2_with fail
    go_loopw [5, 7] (fun lv kv wr => ∃ (k q : Nat) (kz : Int) (a' : Option Addr) (c' : Nat) (rs : List GRow), i + 1 ≤ k ∧ k ≤ n ∧ Hid (kz = (k : Int)) ∧ kv = .int .i64 kz ∧ lv = .slice a' q c' ∧ q ≤ i * 31 + k ∧ Hid (rs.map GRow.xs = prN f n i ++ prK f i k) ∧ Hid (GrA wr B (.slice a' q c') q rs) ∧ B ≤ wr.heap.size ∧ Hid (Below B w wr)) (fun _ kv _ => n - (intOf kv).toNat)
    case atStart => exact ⟨i + 1, q, _, a', c', rs, Nat.le_refl _, by omega, Lib.hid (by omega), rfl, rfl, by omega, HM0, HG, hBr, HBi⟩
    case round =>
    clear HM0 HM HG hBr HBi hq i1
    obtain ⟨k, q, kz, a', c', rs, hik, hk, HK, rfl, rfl, hq, HM, HG, hBr, HBi⟩ := hrel
    obtain ⟨w1, hw1⟩ : ∃ wx, wx = wr := ⟨_, rfl⟩
    subst hw1
    obtain rfl := HK.out
    clear HK
    by_cases hkn : k < n
    · obtain ⟨b, hb⟩ : ∃ b, f i k = b := ⟨_, rfl⟩
      have HBV := Lib.hid hb
      have HC := Lib.hid (HF.out i k w1 hlt hkn (by rw [HBB.out]; exact HBi.out))
      rw [hb] at HC
      clear hb
      have i2 : IntKind.i64.wrap ((k : Int) + 1) = (k : Int) + 1 := IntWalk.i64_in _ (by omega)
      cases b with
      | false =>
        have HM2 : Hid (rs.map GRow.xs = prN f n i ++ prK f i (k + 1)) := Lib.hid (by rw [HM.out, prK_no HBV.out])
        go_wp2_with fail
        refine HC.out.mono ?_
        rintro e w2 ⟨rfl, hb2⟩
        have HG2 := Lib.hid (HG.out.below hb2)
        have HB2 := Lib.hid (HBi.out.trans (hb2.mono hBr))
        have hB2 : B ≤ w2.heap.size := Nat.le_trans hBr hb2.size
        clear hb2
        go_wp2_with fail
        go_roundw
        case rel => exact ⟨k + 1, q, (k : Int) + 1, a', c', rs, by omega, by omega, Lib.hid (by omega), rfl, rfl, by omega, HM2, HG2, hB2, HB2⟩
        case measure => simp [intOf]; omega
      | true =>
        go_wp2_with fail
        refine HC.out.mono ?_
        rintro e w2 ⟨rfl, hb2⟩
        have HG2 := Lib.hid (HG.out.below hb2)
        have HB2 := Lib.hid (HBi.out.trans (hb2.mono hBr))
        have hB2 : B ≤ w2.heap.size := Nat.le_trans hBr hb2.size
        clear hb2
        have hrow := (owNew2 w2 (i : Int) (k : Int) 2).mono hB2
        have hbx := (Below.refl w2.heap.size w2).alloc (Nat.le_refl _) (.cells #[.int .i64 (i : Int), .int .i64 (k : Int)] 2)
        have hsz3 : Hid ((w2.alloc (.cells #[.int .i64 (i : Int), .int .i64 (k : Int)] 2)).heap.size = w2.heap.size + 1) := Lib.hid (by simp)
        have HG3 := Lib.hid (HG2.out.below hbx)
        have HB3 := Lib.hid (HB2.out.trans (hbx.mono hB2))
        have hB3 : B ≤ (w2.alloc (.cells #[.int .i64 (i : Int), .int .i64 (k : Int)] 2)).heap.size := Nat.le_trans hB2 hbx.size
        have HR3 : Hid (Ow eI 1 (w2.alloc (.cells #[.int .i64 (i : Int), .int .i64 (k : Int)] 2)) B 2 (.slice (GRow.mk (some ⟨w2.heap.size, 0, none⟩) 2 2 [(i : Int), (k : Int)]).a 2 2) 2 [(i : Int), (k : Int)]) := Lib.hid hrow
        obtain ⟨ys, hys⟩ : ∃ ys, rs ++ [(⟨some ⟨w2.heap.size, 0, none⟩, 2, 2, [(i : Int), (k : Int)]⟩ : GRow)] = ys := ⟨_, rfl⟩
        have HYS := Lib.hid hys
        have HM2 : Hid (ys.map GRow.xs = prN f n i ++ prK f i (k + 1)) := Lib.hid (by rw [← hys, List.map_append, HM.out, ← prK_yes (by omega) HBV.out, List.append_assoc]; rfl)
        have h63 : q + 1 ≤ maxLen := by unfold maxLen; omega
        have hby : (q + 1) * 24 ≤ 140737488355328 := by omega
        clear hrow hbx hys HG2 HB2
        go_wp2_with (at_builtin; refine wpl_appH GRow.len (by decide) _ rfl (.tmp 24) (.tmp 28) 31 rfl 26 _ 24 rfl Tryd.underlying31 infoGRow B (.slice a' q c') q _ rfl (w2.alloc (.cells #[.int .i64 (i : Int), .int .i64 (k : Int)] 2)) _ _ rfl HG3.out.out (⟨some ⟨w2.heap.size, 0, none⟩, 2, 2, [(i : Int), (k : Int)]⟩ : GRow) (by rw [hsz3.out]; rfl) rfl (GRow.one _) h63 hby hB3 ys HYS ?_)
        intro a6 c6 w6 ho6 hb6 hs6 hk6
        have HG6 : Hid (GrA w6 B (.slice a6 (q + 1) c6) (q + 1) ys) := Lib.hid (by rw [← HYS.out] at ho6 ⊢; exact HG3.out.app HR3.out ho6 (fun b hb hne => hk6 b (by rw [hsz3.out] at hb; exact hb) hne))
        have HB6 := Lib.hid (HB3.out.trans hb6)
        have hB6 : B ≤ w6.heap.size := by omega
        clear ho6 hb6 hk6
        go_wp2_with fail
        go_roundw
        case rel => exact ⟨k + 1, q + 1, (k : Int) + 1, a6, c6, ys, by omega, by omega, Lib.hid (by omega), rfl, rfl, by omega, HM2, HG6, hB6, HB6⟩
        case measure => simp [intOf]; omega
    · obtain rfl : n = k := by omega
      have HM2 : Hid (rs.map GRow.xs = prN f n (i + 1)) := Lib.hid HM.out
      go_wp2_with fail
      go_roundw
      case rel => exact ⟨i + 1, q, a', c', rs, by trivial, by trivial, by omega, by go_num, rfl, by omega, HM2, HG, hBr, HBi⟩
      case measure => simp [intOf]; omega
  · obtain rfl : n = i := by omega
    have HR := Lib.hid HG.out.rd
    have HLN := Lib.hid (HG.out.out.len GRow.len (by decide))
    go_wp2_with fail
    go_ret
    exact ⟨a', q, c', rs, rfl, HLN.out, HM.out, HR.out, by rw [HBB.out]; exact HBi.out⟩
open Go.RowKit
set_option maxRecDepth 100000
set_option linter.unusedVariables false
set_option linter.unusedSimpArgs false
theorem clB_of {l : List Mrk} {ss : List Int} {i k : Nat} {A B : Mrk} {x y : Int} (h1 : l[i]? = some A) (h2 : l[k]? = some B) (h3 : ss[i]? = some x) (h4 : ss[k]? = some y) : clB l ss i k = meetB (boxM A x) (boxM B y) := by
  unfold clB
  rw [h1, h2]
  simp [List.getD, h3, h4]
def clsC (l : List Mrk) (ss : List Int) : Int := if chrB l = true then (if sdB l.length ss = true then 0 else 2) else 1
def clsL (l : List Mrk) (ss : List Int) : List (List Int) := if clsC l ss = 0 then prN (clB l ss) l.length l.length else []
theorem clsC_1 {l : List Mrk} {ss : List Int} (h : chrB l = false) : clsC l ss = 1 ∧ clsL l ss = [] := by
  have e : clsC l ss = 1 := by unfold clsC; rw [h]; rfl
  exact ⟨e, by unfold clsL; rw [e]; rfl⟩
theorem clsC_2 {l : List Mrk} {ss : List Int} (h : chrB l = true) (h2 : sdB l.length ss = false) : clsC l ss = 2 ∧ clsL l ss = [] := by
  have e : clsC l ss = 2 := by unfold clsC; rw [h, h2]; rfl
  exact ⟨e, by unfold clsL; rw [e]; rfl⟩
theorem clsC_0 {l : List Mrk} {ss : List Int} (h : chrB l = true) (h2 : sdB l.length ss = true) : clsC l ss = 0 ∧ clsL l ss = prN (clB l ss) l.length l.length := by
  have e : clsC l ss = 0 := by unfold clsC; rw [h, h2]; rfl
  exact ⟨e, by unfold clsL; rw [e]; rfl⟩
set_option maxHeartbeats 4000000 in
theorem clash1 (l : List Mrk) (ss : List Int) (i k n c d gl gs : Nat) (a b : Option Addr) (w : World) (hl : l.length = n) (hs : ss.length = n) (hch : chrB l = true) (hi : i < n) (hk : k < n) (cL : w.cell? ⟨gl, 0, none⟩ = some (.slice a n c)) (cS : w.cell? ⟨gs, 0, none⟩ = some (.slice b n d)) (ra : Rd Mrk.enc 3 w a l) (rb : Rd eI 1 w b ss) (hT : TabOk w) :
    Calls Tryd.prog 53 #[.int .i64 i, .int .i64 k, .pointer (some ⟨gl, 0, none⟩), .pointer (some ⟨gs, 0, none⟩)] w fun e w' => e = .returned (.bool (clB l ss i k)) ∧ Below w.heap.size w w' := by
  obtain ⟨A, hA⟩ : ∃ z, l[i]? = some z := ⟨_, List.getElem?_eq_getElem (by omega)⟩
  obtain ⟨B, hB⟩ : ∃ z, l[k]? = some z := ⟨_, List.getElem?_eq_getElem (by omega)⟩
  obtain ⟨x, hx⟩ : ∃ z, ss[i]? = some z := ⟨_, List.getElem?_eq_getElem (by omega)⟩
  obtain ⟨y, hy⟩ : ∃ z, ss[k]? = some z := ⟨_, List.getElem?_eq_getElem (by omega)⟩
  obtain ⟨_, hall⟩ := chrB_parts hch
  have HMA := Lib.hid (hall i A hA).1
  have HMB := Lib.hid (hall k B hB).1
  have HLA := Lib.hid (boxM_bd HMA.out x).1
  have HLB := Lib.hid (boxM_bd HMB.out y).1
  rw [clB_of hA hB hx hy]
  obtain ⟨bb, hbb⟩ : ∃ z, meetB (boxM A x) (boxM B y) = z := ⟨_, rfl⟩
  have HBV := Lib.hid hbb
  rw [hbb]
  obtain ⟨b1, o1, e1, C1⟩ := ra.addr (by omega)
  obtain ⟨b2, o2, e2, C2⟩ := rb.addr1 (f := fun x => Value.int .i64 x) (by omega) (fun _ => rfl)
  subst e1
  subst e2
  have lL := lt_of_cell cL
  have lS := lt_of_cell cS
  have SFW : ∀ wz, Below w.heap.size w wz → (fun wq : World => wq.cell? ⟨gl, 0, none⟩ = some (.slice (some ⟨b1, o1, none⟩) n c) ∧ wq.cell? ⟨gs, 0, none⟩ = some (.slice (some ⟨b2, o2, none⟩) n d) ∧ wq.cell? ⟨b1, o1 + i * 3, none⟩ = some (.int .i64 A.x) ∧ wq.cell? ⟨b1, o1 + i * 3 + 1, none⟩ = some (.int .i64 A.y) ∧ wq.cell? ⟨b1, o1 + i * 3 + 2, none⟩ = some (.int .i64 A.mag) ∧ wq.cell? ⟨b1, o1 + k * 3, none⟩ = some (.int .i64 B.x) ∧ wq.cell? ⟨b1, o1 + k * 3 + 1, none⟩ = some (.int .i64 B.y) ∧ wq.cell? ⟨b1, o1 + k * 3 + 2, none⟩ = some (.int .i64 B.mag) ∧ wq.cell? ⟨b2, o2 + i, none⟩ = some (.int .i64 x) ∧ wq.cell? ⟨b2, o2 + k, none⟩ = some (.int .i64 y)) wz := fun wz hz =>
    ⟨(hz.cell (p := ⟨gl, 0, none⟩) lL).trans cL, (hz.cell (p := ⟨gs, 0, none⟩) lS).trans cS, C1 i A hA wz hz 0 _ rfl, C1 i A hA wz hz 1 _ rfl, C1 i A hA wz hz 2 _ rfl, C1 k B hB wz hz 0 _ rfl, C1 k B hB wz hz 1 _ rfl, C1 k B hB wz hz 2 _ rfl, C2 i x hx wz hz, C2 k y hy wz hz⟩
  have j0 : (0 : Int) ≤ (i : Nat) := by omega
  have j1 : ((i : Nat) : Int) < n := by omega
  have j2 : (0 : Int) ≤ (k : Nat) := by omega
  have j3 : ((k : Nat) : Int) < n := by omega
  have HTW := Lib.hid hT
  clear hA hB hx hy hall hbb ra rb C1 C2 lL lS cL cS hT hch hl hs
  go_enter Tryd.func53, Tryd.ntmps53
  go_upto_region 1 with (fail)
  have HDD : Hid (Below w.heap.size w w.drew) := Lib.hid (Below.refl _ _).drew
  have HTD := Lib.hid (HTW.out.below HDD.out)
  have HSF : Hid (∀ wz, Below w.heap.size w wz → (fun wq : World => wq.cell? ⟨gl, 0, none⟩ = some (.slice (some ⟨b1, o1, none⟩) n c) ∧ wq.cell? ⟨gs, 0, none⟩ = some (.slice (some ⟨b2, o2, none⟩) n d) ∧ wq.cell? ⟨b1, o1 + i * 3, none⟩ = some (.int .i64 A.x) ∧ wq.cell? ⟨b1, o1 + i * 3 + 1, none⟩ = some (.int .i64 A.y) ∧ wq.cell? ⟨b1, o1 + i * 3 + 2, none⟩ = some (.int .i64 A.mag) ∧ wq.cell? ⟨b1, o1 + k * 3, none⟩ = some (.int .i64 B.x) ∧ wq.cell? ⟨b1, o1 + k * 3 + 1, none⟩ = some (.int .i64 B.y) ∧ wq.cell? ⟨b1, o1 + k * 3 + 2, none⟩ = some (.int .i64 B.mag) ∧ wq.cell? ⟨b2, o2 + i, none⟩ = some (.int .i64 x) ∧ wq.cell? ⟨b2, o2 + k, none⟩ = some (.int .i64 y)) wz) := Lib.hid fun wz hz => SFW wz hz
  clear SFW
  go_cut [6] (fun v wx => v = .bool bb ∧ Hid (Below w.heap.size w wx))
  case first =>
    go_region_held3 (fun wq : World => wq.cell? ⟨gl, 0, none⟩ = some (.slice (some ⟨b1, o1, none⟩) n c) ∧ wq.cell? ⟨gs, 0, none⟩ = some (.slice (some ⟨b2, o2, none⟩) n d) ∧ wq.cell? ⟨b1, o1 + i * 3, none⟩ = some (.int .i64 A.x) ∧ wq.cell? ⟨b1, o1 + i * 3 + 1, none⟩ = some (.int .i64 A.y) ∧ wq.cell? ⟨b1, o1 + i * 3 + 2, none⟩ = some (.int .i64 A.mag) ∧ wq.cell? ⟨b1, o1 + k * 3, none⟩ = some (.int .i64 B.x) ∧ wq.cell? ⟨b1, o1 + k * 3 + 1, none⟩ = some (.int .i64 B.y) ∧ wq.cell? ⟨b1, o1 + k * 3 + 2, none⟩ = some (.int .i64 B.mag) ∧ wq.cell? ⟨b2, o2 + i, none⟩ = some (.int .i64 x) ∧ wq.cell? ⟨b2, o2 + k, none⟩ = some (.int .i64 y)) (first | (go_keep; done) | exact HSF.out _ HDD.out | exact HSF.out _ HA1.out | exact HSF.out _ HB1.out | exact HSF.out _ HA2.out | exact HSF.out _ HB2.out | exact HSF.out _ HM1.out | fail)
      (first
        | (go_at_call 55; (with_reducible refine (imBox A HMA.out x w.drew (HTD.out)).mono ?_); rintro e wa ⟨aA, rfl, hra, hba⟩; have HA1 : Hid (Below w.heap.size w wa) := Lib.hid (HDD.out.trans (hba.mono HDD.out.size)); have HRA := Lib.hid hra; clear hra hba)
        | (go_at_call 55; (with_reducible refine (imBox B HMB.out y wa (HTW.out.below HA1.out)).mono ?_); rintro e wb ⟨aB, rfl, hrb, hbb⟩; have HB2 : Hid (Below w.heap.size w wb) := Lib.hid (HA1.out.trans (hbb.mono HA1.out.size)); have HRA2 := Lib.hid (HRA.out.below hbb); have HRB2 := Lib.hid hrb; clear hrb hbb)
        | (go_at_call 55; (with_reducible refine (imBox B HMB.out y w.drew (HTD.out)).mono ?_); rintro e wb ⟨aB, rfl, hrb, hbb⟩; have HB1 : Hid (Below w.heap.size w wb) := Lib.hid (HDD.out.trans (hbb.mono HDD.out.size)); have HRB := Lib.hid hrb; clear hrb hbb)
        | (go_at_call 55; (with_reducible refine (imBox A HMA.out x wb (HTW.out.below HB1.out)).mono ?_); rintro e wa ⟨aA, rfl, hra, hba⟩; have HA2 : Hid (Below w.heap.size w wa) := Lib.hid (HB1.out.trans (hba.mono HB1.out.size)); have HRB2 := Lib.hid (HRB.out.below hba); have HRA2 := Lib.hid hra; clear hra hba)
        | (go_at_call 54; (with_reducible refine (imMeet (boxM A x) (boxM B y) aA aB wb HLA.out HLB.out HRA2.out HRB2.out).mono ?_); rintro e wm ⟨rfl, hbm⟩; have HM1 : Hid (Below w.heap.size w wm) := Lib.hid (HB2.out.trans (hbm.mono HB2.out.size)); clear hbm)
        | (go_at_call 54; (with_reducible refine (imMeet (boxM A x) (boxM B y) aA aB wa HLA.out HLB.out HRA2.out HRB2.out).mono ?_); rintro e wm ⟨rfl, hbm⟩; have HM1 : Hid (Below w.heap.size w wm) := Lib.hid (HA2.out.trans (hbm.mono HA2.out.size)); clear hbm)
        | fail)
    all_goals
      rw [HBV.out]
      go_wp2_with fail
      go_meet
      exact ⟨rfl, HM1⟩
  case rest =>
  obtain ⟨rfl, HM1⟩ := hcut
  go_wp2_with fail
  go_ret
  exact ⟨rfl, HM1.out⟩
def ClsP (l : List Mrk) (ss : List Int) (w : World) (e : Ending) (w' : World) : Prop := ∃ (a' : Option Addr) (m' c' : Nat) (rs : List GRow), e = .returned (.tuple #[.slice a' m' c', .int .i64 (clsC l ss)]) ∧ rs.length = m' ∧ rs.map GRow.xs = clsL l ss ∧ GrR w' a' rs ∧ Below w.heap.size w w'
theorem clsP_bad {l : List Mrk} {ss : List Int} {w w' : World} {e : Ending} (cd : Int) (he : e = .returned (.tuple #[.slice none 0 0, .int .i64 cd])) (h : clsC l ss = cd ∧ clsL l ss = []) (hb : Below w.heap.size w w') : ClsP l ss w e w' :=
  ⟨none, 0, 0, [], by rw [h.1]; exact he, rfl, by rw [h.2]; rfl, ⟨Rd.nil _ _ _ _, fun r hr => by cases hr⟩, hb⟩
theorem sdB_len {n : Nat} {ss : List Int} (h : ¬ ss.length = n) : sdB n ss = false := by unfold sdB; rw [decide_eq_false h]; rfl
theorem sdB_all {n : Nat} {ss : List Int} (h : ss.length = n) : sdB n ss = ss.all fun s => inB s 0 3 := by unfold sdB; rw [decide_eq_true h]; rfl
set_option maxHeartbeats 4000000 in
theorem imClashes (l : List Mrk) (ss : List Int) (a b : Option Addr) (n c k d : Nat) (w : World) (hn : n ≤ 100) (hc : n ≤ c) (hk : k ≤ 100) (hl : l.length = n) (hs : ss.length = k) (ra : Rd Mrk.enc 3 w a l) (rb : Rd eI 1 w b ss) (hT : TabOk w) : Calls Tryd.prog 10 #[.slice a n c, .slice b k d] w (ClsP l ss w) := by
  have HL := Lib.hid hl
  have HS := Lib.hid hs
  obtain ⟨hX, hY, hbX, hXs⟩ := bx2 w #[.slice a n c] #[.slice b k d] 24 26
  obtain ⟨w1, hw1⟩ : ∃ wx, (w.alloc (.cells #[.slice a n c] 24)).alloc (.cells #[.slice b k d] 26) = wx := ⟨_, rfl⟩
  obtain ⟨g, hg'⟩ : ∃ gx, w.heap.size = gx := ⟨_, rfl⟩
  rw [hw1] at hX hY hbX hXs
  have HB1 := Lib.hid hbX
  have HRA1 := Lib.hid (ra.below hbX)
  have HRB1 := Lib.hid (rb.below hbX)
  have HT1 := Lib.hid (hT.below hbX)
  rw [hg'] at hX hY
  have HX := Lib.hid hX
  have HY := Lib.hid hY
  have HW1 := Lib.hid hw1
  have HGG := Lib.hid hg'
  have hall := fun (h : chrB l = true) => chrB_parts h
  have HALL := Lib.hid hall
  clear hX hY hbX hXs hw1 hg' ra rb hT hl hs hall
  obtain ⟨R, hR⟩ : ∃ R, chrB l = R := ⟨_, rfl⟩
  have HR := Lib.hid hR
  have HPP : Hid (∀ e w', ClsP l ss w e w' → ClsP l ss w e w') := Lib.hid fun _ _ h => h
  clear hR
  have go1 : ∀ (P : Prop), P → P := fun _ h => h
  cases R with
  | false =>
    go_enter Tryd.func10, Tryd.ntmps10
    go_upto_region 1 with (fail)
    rw [HW1.out, HGG.out]
    have c0 : w1.cell? ⟨g, 0, none⟩ = some (.slice a n c) := HX.out.cell 0
    have c1 : w1.cell? ⟨g + 1, 0, none⟩ = some (.slice b k d) := HY.out.cell 0
    go_wp2_with fail
    refine (ValidChart_any l a n c _ (by omega) hc HL.out HRA1.out).mono ?_
    rintro e w2 ⟨rfl, hb2⟩
    rw [HR.out]
    have HB2 := Lib.hid (HB1.out.trans (hb2.mono HB1.out.size))
    clear hb2 c0 c1
    go_wp2_with fail
    go_ret2
    exact clsP_bad 1 rfl (clsC_1 HR.out) HB2.out
  | true =>
    have hn30 : n ≤ 30 := by have h9 := (HALL.out HR.out).1; rw [HL.out] at h9; exact h9
    by_cases hkn : k = n
    case neg =>
      have dk : ((k : Int) != (n : Int)) = true := by rw [bne_iff_ne]; omega
      have dkn : (k != n) = true := by rw [bne_iff_ne]; exact hkn
      have HC2 := Lib.hid (clsC_2 HR.out (sdB_len (by rw [HS.out, HL.out]; exact hkn)))
      go_enter Tryd.func10, Tryd.ntmps10
      go_upto_region 1 with (fail)
      rw [HW1.out, HGG.out]
      have c0 : w1.cell? ⟨g, 0, none⟩ = some (.slice a n c) := HX.out.cell 0
      have c1 : w1.cell? ⟨g + 1, 0, none⟩ = some (.slice b k d) := HY.out.cell 0
      go_wp2_with fail
      refine (ValidChart_any l a n c _ (by omega) hc HL.out HRA1.out).mono ?_
      rintro e w2 ⟨rfl, hb2⟩
      rw [HR.out]
      have HB2 := Lib.hid (HB1.out.trans (hb2.mono HB1.out.size))
      have HX2 := Lib.hid (HX.out.below hb2)
      have HY2 := Lib.hid (HY.out.below hb2)
      clear hb2 c0 c1
      have c0 : w2.cell? ⟨g, 0, none⟩ = some (.slice a n c) := HX2.out.cell 0
      have c1 : w2.cell? ⟨g + 1, 0, none⟩ = some (.slice b k d) := HY2.out.cell 0
      go_wp2_with fail
      go_ret2
      exact clsP_bad 2 rfl HC2.out HB2.out
    subst hkn
    have dk : ((k : Int) != (k : Int)) = false := by simp
    have HSD := Lib.hid (sdB_all (n := l.length) (ss := ss) (by rw [HS.out, HL.out]))
    obtain ⟨Q, hQ⟩ : ∃ Q, (ss.all fun s => inB s 0 3) = Q := ⟨_, rfl⟩
    have HQ := Lib.hid hQ
    clear hQ
    go_enter Tryd.func10, Tryd.ntmps10
    go_upto_region 1 with (fail)
    rw [HW1.out, HGG.out]
    have c0 : w1.cell? ⟨g, 0, none⟩ = some (.slice a k c) := HX.out.cell 0
    have c1 : w1.cell? ⟨g + 1, 0, none⟩ = some (.slice b k d) := HY.out.cell 0
    go_wp2_with fail
    refine (ValidChart_any l a k c _ (by omega) hc HL.out HRA1.out).mono ?_
    rintro e w2 ⟨rfl, hb2⟩
    rw [HR.out]
    have HB2 := Lib.hid (HB1.out.trans (hb2.mono HB1.out.size))
    have HX2 := Lib.hid (HX.out.below hb2)
    have HY2 := Lib.hid (HY.out.below hb2)
    have HRA2 := Lib.hid (HRA1.out.below hb2)
    have HRB2 := Lib.hid (HRB1.out.below hb2)
    have HT2 := Lib.hid (HT1.out.below hb2)
    clear hb2 c0 c1 HX HY HRA1 HRB1 HT1
    have c0 : w2.cell? ⟨g, 0, none⟩ = some (.slice a k c) := HX2.out.cell 0
    have c1 : w2.cell? ⟨g + 1, 0, none⟩ = some (.slice b k d) := HY2.out.cell 0
    go_wp2_with fail
    refine (allIn_any ss 0 3 b k d _ (by omega) HS.out HRB2.out).mono ?_
    rintro e w3 ⟨rfl, hb3⟩
    rw [HQ.out]
    have HB3 := Lib.hid (HB2.out.trans (hb3.mono HB2.out.size))
    have HX3 := Lib.hid (HX2.out.below hb3)
    have HY3 := Lib.hid (HY2.out.below hb3)
    have HRA3 := Lib.hid (HRA2.out.below hb3)
    have HRB3 := Lib.hid (HRB2.out.below hb3)
    have HT3 := Lib.hid (HT2.out.below hb3)
    clear hb3 c0 c1 HX2 HY2 HRA2 HRB2 HT2
    have c0 : w3.cell? ⟨g, 0, none⟩ = some (.slice a k c) := HX3.out.cell 0
    have c1 : w3.cell? ⟨g + 1, 0, none⟩ = some (.slice b k d) := HY3.out.cell 0
    cases Q with
    | false =>
      have HC2 := Lib.hid (clsC_2 HR.out (by rw [HSD.out, HQ.out]))
      go_wp2_with fail
      go_ret2
      exact clsP_bad 2 rfl HC2.out HB3.out
    | true =>
      have HC2 := Lib.hid (clsC_0 HR.out (by rw [HSD.out, HQ.out]))
      go_wp2_with fail
      refine (pairs_any (clB l ss) k 53 #[.pointer (some ⟨g, 0, none⟩), .pointer (some ⟨g + 1, 0, none⟩)] _ (by omega) (by intro args wx; kernel_rfl) (fun i j w' hi hj hb' => clash1 l ss i j k c d g (g + 1) a b w' HL.out HS.out HR.out hi hj ((HX3.out.below hb').cell 0) ((HY3.out.below hb').cell 0) (HRA3.out.below hb') (HRB3.out.below hb') (HT3.out.below hb'))).mono ?_
      rintro e w4 ⟨a4, m4, c4, rs, rfl, hlr, hmr, hgr, hb4⟩
      have HLR := Lib.hid hlr
      have HMR := Lib.hid hmr
      have HGR := Lib.hid hgr
      have HB4 := Lib.hid (HB3.out.trans (hb4.mono HB3.out.size))
      clear hlr hmr hgr hb4 c0 c1
      go_wp2_with fail
      go_ret2
      exact ⟨a4, m4, c4, rs, by rw [HC2.out.1]; rfl, HLR.out, by rw [HC2.out.2, HL.out]; exact HMR.out, HGR.out, HB4.out⟩
end Go.Proofs.YtiledenbgdeglaaDoor
