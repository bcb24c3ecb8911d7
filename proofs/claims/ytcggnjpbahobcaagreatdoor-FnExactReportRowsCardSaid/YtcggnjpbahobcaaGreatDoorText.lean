/-
  The mark of a number, as a text.
-/
import Derived.Test.YtcggnjpbahobcaaGreatDoorWords
import Derived.Deep.RegionWith
namespace Go.Proofs.YtcggnjpbahobcaaGreatDoor
open Go.RowKit

def mtl : Nat → Nat → List UInt8 → List UInt8
  | 0, _, acc => acc
  | f + 1, k, acc => if k = 0 then acc else mtl f (k / 10) (UInt8.ofNat (48 + k % 10) :: acc)
def mtext (k : Nat) : ByteArray := if k = 0 then ⟨#[109, 48]⟩ else ⟨(109 :: mtl 20 k []).toArray⟩

set_option maxHeartbeats 400000 in
theorem markText_any (k : Nat) (w : World) (hk : k ≤ 1000000000000) :
    Calls Tryz.prog 22 #[.int .i64 k] w fun e w' => e = .returned (.string (mtext k)) ∧ Below w.heap.size w w' := by
  by_cases h0 : k = 0
  · subst h0
    go_enter Tryz.func22, Tryz.ntmps22
    go_wp2
    go_ret
    exact ⟨rfl, Below.refl _ _⟩
  have hk0 : ¬ ((k : Int) ≤ 0) := by omega
  go_enter Tryz.func22, Tryz.ntmps22
  go_wp2_with fail
  go_loopw [0, 3] (fun q s wr => ∃ (f j : Nat) (acc : List UInt8), q = .int .i64 j ∧ j ≤ k ∧ s = .string ⟨acc.toArray⟩ ∧ acc.length + f = 20 ∧ Hid (j < 10 ^ f ∧ mtl f j acc = mtl 20 k []) ∧ Below w.heap.size w wr) (fun q _ _ => (intOf q).toNat)
  case atStart => exact ⟨20, k, [], rfl, Nat.le_refl _, rfl, rfl, ⟨by omega, rfl⟩, Below.refl _ _⟩
  case round =>
    obtain ⟨f, j, acc, rfl, hj, rfl, hf, HM, hb⟩ := hrel
    by_cases hj0 : 0 < j
    · have hm : j % 10 < 10 := Nat.mod_lt _ (by decide)
      have hcv : (convert 62 9 (.slice (some ⟨wr.heap.size, 0, none⟩) 1 1)).run Tryz.prog (wr.alloc (.cells #[.int .u8 (48 + (j : Int) % 10)] 5)) = .ok (.string ⟨#[UInt8.ofNat (48 + j % 10)]⟩) (wr.alloc (.cells #[.int .u8 (48 + (j : Int) % 10)] 5)) := by
        refine run_convert_bytes_back _ 62 9 5 ⟨wr.heap.size, 0, none⟩ 1 [UInt8.ofNat (48 + j % 10)] Tryz.underlying62 Tryz.underlying5 Tryz.underlying9 ?_
        intro i hi
        obtain rfl : i = 0 := by simp at hi; exact hi
        rw [show (⟨wr.heap.size, 0, none⟩ : Addr).add 0 = ⟨wr.heap.size, 0, none⟩ from rfl, cell_of_row _ wr.heap.size 0 #[.int .u8 (48 + (j : Int) % 10)] 5 (0, 0) (heap_alloc_new wr _)]
        simp
        omega
      have hf1 : ∃ f', f = f' + 1 := by
        rcases f with _ | f'
        · have := HM.out.1; simp at this; omega
        · exact ⟨f', rfl⟩
      obtain ⟨f', rfl⟩ := hf1
      have HM2 : Hid (j / 10 < 10 ^ f' ∧ mtl f' (j / 10) (UInt8.ofNat (48 + j % 10) :: acc) = mtl 20 k []) := by
        obtain ⟨h1, h2⟩ := HM.out
        refine ⟨?_, ?_⟩
        · rw [Nat.pow_succ] at h1; omega
        · rw [← h2]; show _ = if j = 0 then acc else _; rw [if_neg (by omega)]
      have hb2 : Below w.heap.size w (wr.alloc (.cells #[.int .u8 (48 + (j : Int) % 10)] 5)) := hb.alloc hb.size _
      clear HM
      generalize hu : UInt8.ofNat (48 + j % 10) = u at hcv HM2
      clear hu
      go_wp2_with fail
      go_roundw
      case rel => exact ⟨f', j / 10, u :: acc, by go_num, by omega, by rw [show (u :: acc) = [u] ++ acc from rfl, ← ByteArray.mk_append_mk], by simp; omega, HM2, hb2⟩
      case measure => simp [intOf]; omega
    · have : j = 0 := by omega
      subst this
      have hfin : acc = mtl 20 k [] := by
        rw [← HM.out.2]; cases f <;> rfl
      have hadd : ∀ wx, (Op.stringOp .add ⟨#[109]⟩ ⟨acc.toArray⟩).run Tryz.prog wx = .ok (.string (mtext k)) wx := by
        intro wx
        rw [run_string_add_sum wx _ _ (by simp [ByteArray.size]; omega), show (#[109] : Array UInt8) = [109].toArray from rfl, ByteArray.mk_append_mk, mtext, if_neg h0, hfin]
        rfl
      clear HM hfin
      go_wp2_with fail
      go_ret
      exact ⟨rfl, hb⟩

def mtextZ (q : Int) : ByteArray := mtext q.toNat
theorem markTextZ (q : Int) (w : World) (h0 : 0 ≤ q) (hq : q ≤ 1000000000000) :
    Calls Tryz.prog 22 #[.int .i64 q] w fun e w' => e = .returned (.string (mtextZ q)) ∧ Below w.heap.size w w' := by
  obtain ⟨k, rfl⟩ := Int.eq_ofNat_of_zero_le h0
  exact markText_any k w (by omega)

theorem mark_step {α : Type} (xs : List α) (f : Nat → α) (n i : Nat) (hl : xs.length = n) (hi : i < n) : ((List.range i).map f ++ xs.drop i).set i (f i) = (List.range (i + 1)).map f ++ xs.drop (i + 1) := by
  rw [List.set_append_right _ _ (by simp), List.range_succ, List.map_append]
  simp only [List.length_map, List.length_range, Nat.sub_self]
  rw [List.drop_eq_getElem_cons (by omega), List.set_cons_zero]
  simp
theorem mark_get {α : Type} (xs : List α) (f : Nat → α) (n i : Nat) (hl : xs.length = n) (hi : i < n) : ∃ x, ((List.range i).map f ++ xs.drop i)[i]? = some x := by
  refine ⟨xs[i], ?_⟩
  rw [List.getElem?_append_right (by simp)]
  simp [hl, hi]
theorem set_get {α : Type} {ys : List α} {i : Nat} {x : α} (h : i < ys.length) : (ys.set i x)[i]? = some x := by simp [h]

end Go.Proofs.YtcggnjpbahobcaaGreatDoor
