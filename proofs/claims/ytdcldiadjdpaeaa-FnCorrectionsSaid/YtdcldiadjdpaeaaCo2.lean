/-
  The differences of an observer, and their median: the program and the reference.
-/
import Derived.Test.YtdcldiadjdpaeaaCo1
import Derived.Test.YtdcldiadjdpaeaaAppL
import Derived.Test.YtdcldiadjdpaeaaMd4
import Derived.Deep.CutRange
import Derived.Deep.Light
namespace Go.Proofs.Ytdcldiadjdpaeaa
open Go.RowKit
set_option maxRecDepth 100000
set_option linter.unusedVariables false
set_option linter.unusedSimpArgs false
theorem infoI64co : (Try.prog.info? 2).map (fun i => (i.zero, i.size, i.bytes)) = some (some (.int .i64 0), 1, 8) := by kernel_rfl
theorem Ow.setOtherC {α : Type} {enc : α → List Value} {k : Nat} {w : World} {base e n g : Nat} {v : Value} {xs : List α} (h : Ow enc k w base e v n xs) (hne : v.ownBlock ≠ some g) (i : Nat) (u : Value) : Ow enc k (w.setCell ⟨g, i, none⟩ u) base e v n xs :=
  h.same fun b hb => Below.heap_setCell _ _ _ _ (fun e => hne (by rw [hb, e]))
/-- a boxed slice of numbers -/
structure BoxP (B : Nat) (w : World) (g g' m c : Nat) (L : List Int) : Prop where
  lo : B ≤ g
  box : CAt w g #[.slice (some ⟨g', 0, none⟩) m c] 27
  row : Ow eI 1 w B 2 (.slice (some ⟨g', 0, none⟩) m c) m L
def BoxL (B : Nat) (w : World) (g : Nat) (L : List Int) : Prop := ∃ g' m c, BoxP B w g g' m c L
theorem BoxP.below {B g g' m c : Nat} {w w' : World} {L : List Int} (h : BoxP B w g g' m c L) (hb : Below w.heap.size w w') : BoxP B w' g g' m c L := ⟨h.lo, h.box.below hb, h.row.below hb⟩
theorem BoxL.below {B g : Nat} {w w' : World} {L : List Int} (h : BoxL B w g L) (hb : Below w.heap.size w w') : BoxL B w' g L := by
  obtain ⟨g', m, c, h⟩ := h
  exact ⟨g', m, c, h.below hb⟩
theorem BoxP.len {B g g' m c : Nat} {w : World} {L : List Int} (h : BoxP B w g g' m c L) : L.length = m := h.row.len eI_len (by decide)
/-- one more number, and the box written -/
theorem BoxP.app {B g g' m c g5 c5 : Nat} {w w' : World} {L ys : List Int} (h : BoxP B w g g' m c L) (ho : Ow eI 1 w' B 2 (.slice (some ⟨g5, 0, none⟩) (m + 1) c5) (m + 1) ys) (hb : Below B w w')
    (hk : ∀ b, b < w.heap.size → (Value.slice (some ⟨g', 0, none⟩) m c).ownBlock ≠ some b → w'.heap[b]? = w.heap[b]?) :
    CAt w' g #[.slice (some ⟨g', 0, none⟩) m c] 27 ∧ BoxP B (w'.setCell ⟨g, 0, none⟩ (.slice (some ⟨g5, 0, none⟩) (m + 1) c5)) g g5 (m + 1) c5 ys ∧ Below B w (w'.setCell ⟨g, 0, none⟩ (.slice (some ⟨g5, 0, none⟩) (m + 1) c5)) := by
  have hC := h.box.keep hk (h.row.neCAt h.box (by decide))
  have hne := ho.neCAt hC (by decide)
  refine ⟨hC, ⟨h.lo, hC.set 0 _, ho.setOtherC hne 0 _⟩, hb.trans ?_⟩
  exact ⟨rfl, rfl, rfl, by simp [World.setCell], fun b hb2 => Below.heap_setCell _ _ _ _ (show b ≠ g by have := h.lo; omega)⟩
theorem ag_next {L : List Com} {b : Int} {k : Nat} {x : Com} (hx : L[k]? = some x) : agL (L.take (k + 1)) b = agL (L.take k) b ++ ag1 b x := by
  unfold agL
  rw [List.take_add_one, hx]
  simp
theorem ag_mem {L : List Com} {b : Int} {k : Nat} {x : Com} (hx : L[k]? = some x) {p : Int × Int} (hp : p ∈ ag1 b x) : p ∈ agL L b := List.mem_flatMap.2 ⟨x, List.mem_of_getElem? hx, hp⟩
theorem ag_all {L : List Com} {b : Int} {m : Nat} (hl : L.length = m) : agL (L.take m) b = agL L b := by rw [List.take_of_length_le (by omega)]
set_option maxHeartbeats 4000000 in
theorem against_any (L : List Com) (b : Int) (fn : FuncId) (caps : Array Value) (J : List (Int × Int) → World → Prop) (a : Option Addr) (m c : Nat) (w : World) (hm : m ≤ 1000) (hl : L.length = m)
    (hcf : ∀ (args : Array Value) (wx : World), (callFunc fn args).run Try.prog wx = .ok (.enter fn args) wx) (hrd : ∀ pre wx, J pre wx → Rd Com.enc 3 wx a L) (hal : ∀ pre wx wy, J pre wx → Below wx.heap.size wx wy → J pre wy) (hdf : ∀ x ∈ L, -2000 ≤ x.diff ∧ x.diff ≤ 2000)
    (hcl : ∀ pre p wx, p ∈ agL L b → pre.length ≤ m → J pre wx → Calls Try.prog fn (#[.int .i64 p.1, .int .i64 p.2] ++ caps) wx fun e w' => e = .returned (.tuple #[]) ∧ J (pre ++ [p]) w') (h0 : J [] w) :
    Calls Try.prog 30 #[.slice a m c, .int .i64 b, .func (.func fn) #[] caps] w fun e w' => e = .returned (.tuple #[]) ∧ J (agL L b) w' := by
  have HL := Lib.hid hl
  have HRD := Lib.hid hrd
  have HAL := Lib.hid hal
  have HDF := Lib.hid hdf
  have HCL := Lib.hid hcl
  clear hl hrd hal hdf hcl
  go_enter Try.func30, Try.ntmps30
  go_wp2_with fail
  go_loopw [10] (fun iv wr => ∃ k : Nat, k ≤ m ∧ iv = .int .i64 k ∧ Hid (J (agL (L.take k) b) wr)) (fun iv _ => m - (intOf iv).toNat)
  case atStart => exact ⟨0, Nat.zero_le _, rfl, Lib.hid h0⟩
  case round =>
    obtain ⟨k, hk, rfl, HJ⟩ := hrel
    by_cases hlt : k < m
    · obtain ⟨x, hx⟩ : ∃ x, L[k]? = some x := ⟨_, List.getElem?_eq_getElem (by rw [HL.out]; exact hlt)⟩
      obtain ⟨bb, ob, hab, hbl, hc⟩ := (HRD.out _ _ HJ.out) k x hx
      subst hab
      have c0 := hc 0 _ rfl
      rw [Nat.add_zero] at c0
      have c1 := hc 1 _ rfl
      have c2 := hc 2 _ rfl
      obtain ⟨e0, e1, e2, hba⟩ := comNew wr x
      have HJ1 := Lib.hid (HAL.out _ _ _ HJ.out hba)
      have HX := Lib.hid hx
      have hd := HDF.out x (List.mem_of_getElem? hx)
      have HNX := Lib.hid (ag_next (b := b) hx)
      have iw : IntKind.i64.wrap (-x.diff) = -x.diff := IntWalk.i64_in _ (by omega)
      clear hx hc
      go_upto_region 3 with (fail)
      generalize wr.alloc (.cells #[.int .i64 x.a, .int .i64 x.b, .int .i64 x.diff] 40) = w1 at *
      clear c0 c1 c2 hba
      by_cases h1 : b = x.b
      · have d1 : (b == x.b) = true := beq_iff_eq.2 h1
        have ea : ag1 b x = [(x.a, x.diff)] := by unfold ag1; rw [if_pos h1]
        have HC := Lib.hid (HCL.out _ (x.a, x.diff) w1 (ag_mem HX.out (by rw [ea]; exact List.mem_singleton.2 rfl)) (by have h9 := agL_len (L.take k) b; rw [List.length_take] at h9; omega) HJ1.out)
        have HEA := Lib.hid ea
        clear h1 ea
        go_wp2_with fail
        refine HC.out.mono ?_
        rintro e w2 ⟨rfl, hj⟩
        have HJ2 : Hid (J (agL (L.take (k + 1)) b) w2) := Lib.hid (by rw [HNX.out, HEA.out]; exact hj)
        clear hj e0 e1 e2
        go_wp2_with fail
        go_roundw
        case rel => exact ⟨k + 1, by omega, by go_num, HJ2⟩
        case measure => simp [intOf]; omega
      · have d1 : (b == x.b) = false := beq_eq_false_iff_ne.2 h1
        by_cases h2 : b = x.a
        · have d2 : (b == x.a) = true := beq_iff_eq.2 h2
          have ea : ag1 b x = [(x.b, -x.diff)] := by unfold ag1; rw [if_neg h1, if_pos h2]
          have HC := Lib.hid (HCL.out _ (x.b, -x.diff) w1 (ag_mem HX.out (by rw [ea]; exact List.mem_singleton.2 rfl)) (by have h9 := agL_len (L.take k) b; rw [List.length_take] at h9; omega) HJ1.out)
          have HEA := Lib.hid ea
          clear h1 h2 ea
          go_wp2_with fail
          refine HC.out.mono ?_
          rintro e w2 ⟨rfl, hj⟩
          have HJ2 : Hid (J (agL (L.take (k + 1)) b) w2) := Lib.hid (by rw [HNX.out, HEA.out]; exact hj)
          clear hj e0 e1 e2
          go_wp2_with fail
          go_roundw
          case rel => exact ⟨k + 1, by omega, by go_num, HJ2⟩
          case measure => simp [intOf]; omega
        · have d2 : (b == x.a) = false := beq_eq_false_iff_ne.2 h2
          have HJ2 : Hid (J (agL (L.take (k + 1)) b) w1) := Lib.hid (by rw [HNX.out, show ag1 b x = [] by unfold ag1; rw [if_neg h1, if_neg h2], List.append_nil]; exact HJ1.out)
          clear h1 h2
          go_wp2_with fail
          go_roundw
          case rel => exact ⟨k + 1, by omega, by go_num, HJ2⟩
          case measure => simp [intOf]; omega
    · obtain rfl : k = m := by omega
      have HJ2 : Hid (J (agL L b) wr) := Lib.hid (by rw [← ag_all HL.out]; exact HJ.out)
      go_wp2_with fail
      go_end0
      exact ⟨rfl, HJ2.out⟩
set_option maxHeartbeats 4000000 in
theorem mdStep (B : Nat) (a : Int) (ga gd : Nat) (pre : List (Int × Int)) (p : Int × Int) (w0 w : World) (hlen : pre.length ≤ 1000) (hB : w0.heap.size = B) (hga : CAt w0 ga #[.int .i64 a] 2) (hb : Below B w0 w) (hx : BoxL B w gd (mdL a pre)) :
    Calls Try.prog 31 #[.int .i64 p.1, .int .i64 p.2, .pointer (some ⟨ga, 0, none⟩), .pointer (some ⟨gd, 0, none⟩)] w fun e w' => e = .returned (.tuple #[]) ∧ Below B w0 w' ∧ BoxL B w' gd (mdL a (pre ++ [p])) := by
  obtain ⟨g', m, c, hbx⟩ := hx
  obtain ⟨p1, p2⟩ := p
  simp only
  have hBsz : B ≤ w.heap.size := by have := hb.size; omega
  have hga2 := hga.belowN hb (by have := hga.lt; omega)
  have ca : w.cell? ⟨ga, 0, none⟩ = some (.int .i64 a) := hga2.cell 0
  have cd : w.cell? ⟨gd, 0, none⟩ = some (.slice (some ⟨g', 0, none⟩) m c) := hbx.box.cell 0
  have hml : m ≤ 1000 := by
    have h1 := hbx.len
    have h2 : (mdL a pre).length ≤ pre.length := by unfold mdL; rw [List.length_map]; exact List.length_filter_le _ _
    omega
  have HBX := Lib.hid hbx
  have HB := Lib.hid hb
  clear hga hga2 hbx hb
  by_cases h1 : p1 = a
  · have d1 : (p1 == a) = true := beq_iff_eq.2 h1
    have HE : Hid (mdL a pre ++ [p2] = mdL a (pre ++ [(p1, p2)])) := Lib.hid (by rw [mdL_app]; congr 1; simp [mdL, h1])
    clear h1
    go_enter Try.func31, Try.ntmps31
    have h63 : m + 1 ≤ maxLen := by unfold maxLen; omega
    have hby : (m + 1) * 8 ≤ 140737488355328 := by omega
    go_wp2_with (at_builtin; refine wpl_appL eI_len (by decide) _ rfl (.tmp 9) (.tmp 11) 27 rfl 2 (.int .i64 0) 8 rfl Try.underlying27 infoI64co B _ m (mdL a pre) rfl w _ _ rfl HBX.out.row p2 rfl rfl (eI_one _) h63 hby hBsz _ HE ?_)
    intro g5 c5 w5 ho5 hb5 _ hk5
    obtain ⟨hC, hP, hB2⟩ := HBX.out.app ho5 hb5 hk5
    have cc : w5.cell? ⟨gd, 0, none⟩ = some (.slice (some ⟨g', 0, none⟩) m c) := hC.cell 0
    have cf : w5.frozen? ⟨gd, 0, none⟩ = false := hC.free 0
    have HP := Lib.hid hP
    have HB2 := Lib.hid (HB.out.trans hB2)
    clear ho5 hb5 hk5 hC hP hB2 h63 hby
    go_wp2_with fail
    go_end0
    exact ⟨rfl, HB2.out, _, _, _, HP.out⟩
  · have d1 : (p1 == a) = false := beq_eq_false_iff_ne.2 h1
    have HE : Hid (mdL a (pre ++ [(p1, p2)]) = mdL a pre) := Lib.hid (by rw [mdL_app]; simp [mdL, h1])
    clear h1
    go_enter Try.func31, Try.ntmps31
    go_wp2_with fail
    go_end0
    exact ⟨rfl, HB.out, by rw [HE.out]; exact ⟨_, _, _, HBX.out⟩⟩
/-- what MedianDiff tells -/
def mdOk (n a b : Int) : Bool := inB a 0 (n - 1) && (inB b 0 (n - 1) && !(a == b))
def mdC (n : Int) (L : List Com) (a b : Int) : Int := if comB n L = true then (if mdOk n a b = true then (if dfL L a b = [] then 3 else 0) else 2) else 1
def mdV (n : Int) (L : List Com) (a b : Int) : Int := if mdC n L a b = 0 then medI (dfL L a b) else 0
theorem md_1 {n : Int} {L : List Com} {a b : Int} (h : comB n L = false) : mdC n L a b = 1 ∧ mdV n L a b = 0 := by
  have e : mdC n L a b = 1 := by unfold mdC; rw [h]; rfl
  exact ⟨e, by unfold mdV; rw [e]; rfl⟩
theorem md_2 {n : Int} {L : List Com} {a b : Int} (h : comB n L = true) (h2 : mdOk n a b = false) : mdC n L a b = 2 ∧ mdV n L a b = 0 := by
  have e : mdC n L a b = 2 := by unfold mdC; rw [h, h2]; rfl
  exact ⟨e, by unfold mdV; rw [e]; rfl⟩
theorem md_3 {n : Int} {L : List Com} {a b : Int} (h : comB n L = true) (h2 : mdOk n a b = true) (h3 : dfL L a b = []) : mdC n L a b = 3 ∧ mdV n L a b = 0 := by
  have e : mdC n L a b = 3 := by unfold mdC; rw [h, h2, if_pos rfl, if_pos rfl, if_pos h3]
  exact ⟨e, by unfold mdV; rw [e]; rfl⟩
theorem md_0 {n : Int} {L : List Com} {a b : Int} (h : comB n L = true) (h2 : mdOk n a b = true) (h3 : dfL L a b ≠ []) : mdC n L a b = 0 ∧ mdV n L a b = medI (dfL L a b) := by
  have e : mdC n L a b = 0 := by unfold mdC; rw [h, h2, if_pos rfl, if_pos rfl, if_neg h3]
  exact ⟨e, by unfold mdV; rw [e]; rfl⟩
theorem dfL_bd {n : Int} {L : List Com} {a b : Int} (h : ComsOk n L) : ∀ y ∈ dfL L a b, -2000 ≤ y ∧ y ≤ 2000 := fun y hy => by
  obtain ⟨x, hx, hy⟩ := List.mem_flatMap.1 hy
  have := (h.e x hx).d0
  have := (h.e x hx).d1
  unfold df1 at hy
  rcases List.mem_append.1 hy with hy | hy
  · split at hy
    · rw [List.mem_singleton] at hy; omega
    · cases hy
  · split at hy
    · rw [List.mem_singleton] at hy; omega
    · cases hy
theorem dfL_len {n : Int} {L : List Com} {a b : Int} (hab : a ≠ b) : (dfL L a b).length ≤ L.length := by
  rw [← md_df hab]
  have h2 : (mdL a (agL L b)).length ≤ (agL L b).length := by unfold mdL; rw [List.length_map]; exact List.length_filter_le _ _
  exact Nat.le_trans h2 (agL_len L b)
end Go.Proofs.Ytdcldiadjdpaeaa
