/-
  The text of an assignment is not empty.
-/
import Derived.Test.YtkbcjegfobngaaaDoorAs3
import Derived.Test.YtkbcjegfobngaaaDoorDec2
import Derived.Lib.Join
namespace Go.Proofs.YtkbcjegfobngaaaDoor
open Go.RowKit
set_option maxRecDepth 100000
set_option linter.unusedVariables false
set_option linter.unusedSimpArgs false
theorem infoSt : (Tryd.prog.info? 9).map (fun i => (i.zero, i.size, i.bytes)) = some (some (.string ByteArray.empty), 1, 16) := by kernel_rfl
def joT (xs : List ByteArray) : List UInt8 := Lib.join (xs.map (·.data.toList)) [32]
structure WdsQ (xs : List ByteArray) (k : Nat) : Prop where
  len : xs.length = k
  sz : ∀ x ∈ xs, 1 ≤ x.size ∧ x.size ≤ 21
theorem WdsQ.zero : WdsQ [] 0 := ⟨rfl, fun x hx => by cases hx⟩
theorem WdsQ.app {xs : List ByteArray} {k : Nat} {y : ByteArray} (h : WdsQ xs k) (h1 : 1 ≤ y.size) (h2 : y.size ≤ 21) : WdsQ (xs ++ [y]) (k + 1) := ⟨by rw [List.length_append, h.len]; rfl, fun x hx => by
  rcases List.mem_append.1 hx with hx | hx
  · exact h.sz x hx
  · rw [List.mem_singleton.1 hx]; exact ⟨h1, h2⟩⟩
theorem lens_le21 (xs : List ByteArray) (h : ∀ x ∈ xs, 1 ≤ x.size ∧ x.size ≤ 21) : Lib.lens (xs.map (·.data.toList)) ≤ 21 * xs.length := by
  induction xs with
  | nil => simp [Lib.lens]
  | cons x xs ih =>
    have h1 := ih fun y hy => h y (List.mem_cons_of_mem _ hy)
    have h2 := (h x (List.mem_cons_self ..)).2
    simp only [Lib.lens, List.map_cons, List.sum_cons, List.length_cons, Array.length_toList] at h1 ⊢
    have h3 : x.data.size = x.size := rfl
    omega
theorem WdsQ.join {xs : List ByteArray} {k : Nat} (h : WdsQ xs k) (hk : 1 ≤ k) : 1 ≤ (joT xs).length ∧ (joT xs).length ≤ 22 * k := by
  cases xs with
  | nil => have := h.len; simp at this; omega
  | cons x xs =>
    unfold joT
    rw [List.map_cons, Lib.join_length]
    have h1 := (h.sz x (List.mem_cons_self ..)).1
    have h2 := lens_le21 (x :: xs) h.sz
    have h3 := h.len
    have h4 : x.data.size = x.size := rfl
    simp only [Lib.lens, List.map_cons, List.sum_cons, List.length_cons, Array.length_toList, List.length_map, List.length_nil] at h2 h3 ⊢
    omega
theorem decB_pos (n : Int) (h : 0 ≤ n) (h2 : n ≤ 3) : 1 ≤ (decB n).size := by
  rcases (show n = 0 ∨ n = 1 ∨ n = 2 ∨ n = 3 by omega) with rfl | rfl | rfl | rfl <;> decide +kernel
set_option maxHeartbeats 4000000 in
theorem asText (m n : Nat) (A : List Int) (a : Option Addr) (c : Nat) (w : World) (hm1 : 1 ≤ m) (hm : m ≤ 4) (hn : n ≤ 4) (hq : AsQ m n A) (hr : Rd eI 1 w a A) (hT : TabOk w) : Calls Tryd.prog 12 #[.slice a m c] w fun e w' => ∃ s : ByteArray, e = .returned (.string s) ∧ 1 ≤ s.size ∧ Below w.heap.size w w' := by
  have HQ := Lib.hid hq
  have HR := Lib.hid hr
  have HT := Lib.hid hT
  clear hq hr hT
  go_enter Tryd.func12, Tryd.ntmps12
  have hG := Ow.built eS 1 w 9
  have hbA := below_built w 9
  go_upto_region 2 with (fail)
  obtain ⟨w1, hw1⟩ : ∃ wx, w.alloc (.cells #[] 9) = wx := ⟨_, rfl⟩
  rw [hw1] at hG hbA ⊢
  have HO1 := Lib.hid hG
  have HB1 := Lib.hid hbA
  clear hG hbA hw1
  go_wp2_with fail
  go_loopw [3, 5, 9] (fun lv vv iv wr => ∃ (k : Nat) (xs : List ByteArray) (a' : Option Addr) (c' : Nat), vv = vv ∧ k ≤ m ∧ iv = .int .i64 k ∧ lv = .slice a' k c' ∧ Hid (WdsQ xs k) ∧ Hid (Ow eS 1 wr w.heap.size 9 (.slice a' k c') k xs) ∧ Hid (Below w.heap.size w wr)) (fun _ _ iv _ => m - (intOf iv).toNat)
  case atStart => exact ⟨0, [], _, _, rfl, Nat.zero_le _, rfl, rfl, Lib.hid WdsQ.zero, HO1, HB1⟩
  case round =>
  obtain ⟨k, xs, a', c', -, hk, rfl, rfl, HX, HO, HB⟩ := hrel
  obtain ⟨wA, hwA⟩ : ∃ wx, wx = wr := ⟨_, rfl⟩
  subst hwA
  clear HO1 HB1
  have hbz := HB.out.size
  by_cases hlt : k < m
  · obtain ⟨x, hx, hx0, hx1⟩ := HQ.out.get hlt
    obtain ⟨b1, oo, he, hc'⟩ := (HR.out.below HB.out).at1 hx (u := .int .i64 x) rfl
    have y0 := hc'.2
    have j0 : (0 : Int) ≤ (k : Nat) := by omega
    have j1 : ((k : Nat) : Int) < (m : Nat) := by omega
    have h63 : k + 1 ≤ maxLen := by unfold maxLen; omega
    have hby : (k + 1) * 16 ≤ 140737488355328 := by omega
    subst he
    clear hx hc'
    by_cases h9 : x = -1
    · subst h9
      have HXN := Lib.hid (HX.out.app (y := ⟨#[45]⟩) (by decide) (by decide))
      obtain ⟨ys, hys⟩ : ∃ ys, xs ++ [(⟨#[45]⟩ : ByteArray)] = ys := ⟨_, rfl⟩
      rw [hys] at HXN
      have HYS := Lib.hid hys
      clear hys
      go_wp2_with (at_builtin; refine wpl_app eS_len (by decide) _ rfl (.tmp 15) (.tmp 16) 46 rfl 9 (.string ByteArray.empty) 16 rfl Tryd.underlying46 infoSt w.heap.size _ k _ rfl wA _ 9 rfl HO.out ⟨#[45]⟩ rfl rfl (eS_one _) h63 hby hbz ys HYS ?_)
      intro a6 c6 w6 ho6 hb6 _
      have HO6 := Lib.hid ho6
      have HB6 := Lib.hid (HB.out.trans hb6)
      clear ho6 hb6
      go_wp2_with fail
      go_roundw
      case rel => exact ⟨k + 1, ys, a6, c6, by trivial, by omega, by go_num, rfl, HXN, HO6, HB6⟩
      case measure => simp [intOf]; omega
    · have d9 : (x == -1) = false := beq_eq_false_iff_ne.2 h9
      have HXN := Lib.hid (HX.out.app (y := decB x) (decB_pos x (by omega) (by omega)) (decB_len x ⟨by omega, by omega⟩))
      have HTA := Lib.hid (HT.out.below HB.out)
      have HDX := Lib.hid (Decimal_any x ⟨by omega, by omega⟩ wA HTA.out)
      obtain ⟨y, hy⟩ : ∃ y, decB x = y := ⟨_, rfl⟩
      rw [hy] at HXN HDX
      obtain ⟨ys, hys⟩ : ∃ ys, xs ++ [y] = ys := ⟨_, rfl⟩
      rw [hys] at HXN
      have HYS := Lib.hid hys
      clear hys hy h9
      go_wp2_with fail
      refine HDX.out.mono ?_
      rintro e w5 ⟨rfl, hb5⟩
      have HB5 := Lib.hid (HB.out.trans (hb5.mono hbz))
      have HO5 := Lib.hid (HO.out.below hb5)
      have hbz5 := HB5.out.size
      clear hb5 HDX
      go_wp2_with (at_builtin; refine wpl_app eS_len (by decide) _ rfl (.tmp 18) (.tmp 21) 46 rfl 9 (.string ByteArray.empty) 16 rfl Tryd.underlying46 infoSt w.heap.size _ k _ rfl w5 _ 9 rfl HO5.out y rfl rfl (eS_one _) h63 hby hbz5 ys HYS ?_)
      intro a6 c6 w6 ho6 hb6 _
      have HO6 := Lib.hid ho6
      have HB6 := Lib.hid (HB5.out.trans hb6)
      clear ho6 hb6
      go_wp2_with fail
      go_roundw
      case rel => exact ⟨k + 1, ys, a6, c6, by trivial, by omega, by go_num, rfl, HXN, HO6, HB6⟩
      case measure => simp [intOf]; omega
  · obtain rfl : m = k := by omega
    obtain ⟨b4, o4, he4, hC4⟩ := (HO.out.rd eS_len (by decide)).addr1 (f := fun s : ByteArray => Value.string s) (by rw [HX.out.len]; omega) (fun _ => rfl)
    subst he4
    obtain ⟨hj1, hj2⟩ := HX.out.join hm1
    have hcl := HO.out.caps.1
    have HJ : Hid (Calls Tryd.prog 27 #[.slice (some ⟨b4, o4, none⟩) m c', .string ⟨#[32]⟩] wA fun e w'' => e = .returned (.string ⟨(joT xs).toArray⟩) ∧ Below wA.heap.size wA w'') := Lib.hid (by
      have hblt : b4 < wA.heap.size := (HO.out.lt b4 rfl).2
      have h := Shstrings_Join b4 o4 c' xs ⟨#[32]⟩ wA (fun j x hx => hC4 j x hx wA (Below.refl _ _)) hblt (by rw [HX.out.len]; omega) (by rw [HX.out.len]; exact hcl) (Nat.le_trans hj2 (by omega))
      rw [HX.out.len] at h
      exact h)
    have HJ1 : Hid (1 ≤ (⟨(joT xs).toArray⟩ : ByteArray).size) := Lib.hid (by show 1 ≤ (joT xs).toArray.size; rw [List.size_toArray]; exact hj1)
    clear hC4 hj1 hj2 hcl
    go_wp2_with fail
    refine HJ.out.mono ?_
    rintro e w5 ⟨rfl, hb5⟩
    have HB5 := Lib.hid (HB.out.trans (hb5.mono hbz))
    clear hb5 HJ
    go_wp2_with fail
    go_ret
    exact ⟨_, rfl, HJ1.out, HB5.out⟩
end Go.Proofs.YtkbcjegfobngaaaDoor
