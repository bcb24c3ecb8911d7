/-
  Words and wrapped texts, in the program and in the reference.
-/
import Derived.Test.YtkgkammobogcbaaDoorCutP
import Derived.Test.YtkgkammobogcbaaDoorApp0
import Derived.Test.YtkgkammobogcbaaDoorPlain
import Derived.Test.YtkgkammobogcbaaDoorMore
import Derived.Test.YtkgkammobogcbaaDoorShelf
import Derived.Test.YtkgkammobogcbaaDoorWords
import Derived.Test.YtkgkammobogcbaaDoorHarnString
import Derived.Deep.CutRange
import Derived.Deep.Light
import Derived.StillTailTactics
namespace Go.Proofs.YtkgkammobogcbaaDoor
open Go.RowKit
set_option maxRecDepth 100000

/-- the library's number reads as some number -/
def MaxOk (w : World) : Prop := 2 < w.heap.size ∧ ∃ m, w.cell? ⟨2, 0, none⟩ = some (.int .i64 m)
theorem MaxOk.below {w w' : World} (h : MaxOk w) (hb : Below w.heap.size w w') : MaxOk w' := by
  obtain ⟨h1, m, h2⟩ := h
  exact ⟨Nat.lt_of_lt_of_le h1 hb.size, m, (hb.cell (p := ⟨2, 0, none⟩) h1).trans h2⟩
theorem infoSt : (Tryd.prog.info? 9).map (fun i => (i.zero, i.size, i.bytes)) = some (some (.string ByteArray.empty), 1, 16) := by kernel_rfl
theorem nilF {s : ByteArray} (h : s.size = 0) : (s.toList == ([] : List UInt8)) = true ∧ s.toList.isEmpty = true ∧ s.toList = [] := by
  have h0 : s.toList = [] := toList_nil h
  exact ⟨by rw [h0]; rfl, by rw [h0]; rfl, h0⟩
theorem consF {s : ByteArray} (h : 0 < s.size) : (s.toList == ([] : List UInt8)) = false ∧ s.toList.isEmpty = false ∧ ¬ s.toList = [] := by
  have h0 : s.toList.isEmpty = false := toList_ne h
  have h1 : ¬ s.toList = [] := fun e => by rw [e] at h0; cases h0
  exact ⟨by rw [beq_eq_false_iff_ne]; exact h1, h0, h1⟩
set_option maxHeartbeats 2000000 in
theorem l01Split_any (s : ByteArray) (w : World) (hs : s.size ≤ 1048576) : Calls Tryd.prog 49 #[.string s, .int .u8 32] w fun e w' => ∃ a' n' c', e = .returned (.slice a' n' c') ∧ n' ≤ 1048577 ∧ Ow eS 1 w' w.heap.size 9 (.slice a' n' c') n' (cutAll s) ∧ Below w.heap.size w w' := by
  have hbb := below_built w 9
  have hbo := Ow.built eS 1 w 9
  have HBB := Lib.hid hbb
  have HBO := Lib.hid hbo
  clear hbb hbo
  go_enter Tryd.func49, Tryd.ntmps49
  go_wp2_with fail
  go_loopw [5, 6, 7] (fun o q i wr => ∃ (f k m : Nat) (a2 : Option Addr) (c2 : Nat) (L : List ByteArray), f ≤ k ∧ k ≤ s.size ∧ m ≤ k ∧ q = .int .i64 f ∧ i = .int .i64 k ∧ o = .slice a2 m c2 ∧ Ow eS 1 wr w.heap.size 9 (.slice a2 m c2) m L ∧ Hid (L ++ cutAll (s.extract f s.size) = cutAll s ∧ ∀ j (hj : j < s.size), f ≤ j → j < k → s[j]'hj ≠ 32) ∧ Below w.heap.size w wr) (fun _ _ i _ => s.size - (intOf i).toNat)
  case atStart => exact ⟨0, 0, 0, _, _, [], Nat.le_refl _, Nat.zero_le _, Nat.le_refl _, rfl, rfl, rfl, HBO.out, Lib.hid ⟨by rw [cutAll_full]; rfl, fun j _ _ h => absurd h (by omega)⟩, HBB.out⟩
  case round =>
    obtain ⟨f, k, m, a2, c2, L, hfk, hk, hmk, rfl, rfl, rfl, ho, HI, hb⟩ := hrel
    have h63 : m + 1 ≤ maxLen := by unfold maxLen; omega
    have hby : (m + 1) * 16 ≤ 140737488355328 := by omega
    by_cases hlt : k < s.size
    · by_cases h32 : (s[k]'hlt).toNat = 32
      · have d1 : (((s[k]'hlt).toNat : Int) == 32) = true := by rw [h32]; rfl
        have e32 : s[k]'hlt = 32 := UInt8.toNat_inj.1 h32
        have HY : Hid (L ++ [s.extract f k] = L ++ [s.extract f k]) := Lib.hid rfl
        have HJ : Hid ((L ++ [s.extract f k]) ++ cutAll (s.extract (k + 1) s.size) = cutAll s ∧ ∀ j (hj : j < s.size), k + 1 ≤ j → j < k + 1 → s[j]'hj ≠ 32) := Lib.hid ⟨by
          rw [← HI.out.1, cut_yes hfk hlt HI.out.2 e32]; simp, fun j _ h1 h2 => absurd h1 (by omega)⟩
        clear h32 e32
        go_wp2_with (at_builtin; refine wpl_app eS_len (by decide) _ rfl (.tmp 20) (.tmp 25) 22 rfl 9 (.string ByteArray.empty) 16 rfl Tryd.underlying22 infoSt w.heap.size _ m _ rfl wr _ 9 rfl ho (s.extract f k) rfl rfl (eS_one _) h63 hby hb.size _ HY ?_)
        intro a4 c4 w6 ho6 hb6 _
        have hb7 := hb.trans hb6
        clear ho hb hb6 d1
        go_wp2_with fail
        go_roundw
        case rel => exact ⟨k + 1, k + 1, m + 1, a4, c4, _, by omega, by omega, by omega, by go_num, by go_num, by simp, ho6, HJ, hb7⟩
        case measure => simp [intOf]; omega
      · have d1 : (((s[k]'hlt).toNat : Int) == 32) = false := by rw [beq_eq_false_iff_ne]; omega
        have HJ : Hid (L ++ cutAll (s.extract f s.size) = cutAll s ∧ ∀ j (hj : j < s.size), f ≤ j → j < k + 1 → s[j]'hj ≠ 32) := Lib.hid ⟨HI.out.1, fun j hj h1 h2 => by
          by_cases hjk : j < k
          · exact HI.out.2 j hj h1 hjk
          · obtain rfl : j = k := by omega
            exact fun e => h32 (by rw [e]; rfl)⟩
        clear h32
        go_wp2_with fail
        go_roundw
        case rel => exact ⟨f, k + 1, m, a2, c2, L, by omega, by omega, by omega, rfl, by go_num, rfl, ho, HJ, hb⟩
        case measure => simp [intOf]; omega
    · obtain rfl : k = s.size := by omega
      have HY : Hid (L ++ [s.extract f s.size] = cutAll s) := Lib.hid (by rw [← HI.out.1, cut_no fun j hj h1 => HI.out.2 j hj h1 hj])
      go_wp2_with (at_builtin; refine wpl_app eS_len (by decide) _ rfl (.tmp 29) (.tmp 33) 22 rfl 9 (.string ByteArray.empty) 16 rfl Tryd.underlying22 infoSt w.heap.size _ m _ rfl wr _ 9 rfl ho (s.extract f s.size) rfl rfl (eS_one _) h63 hby hb.size _ HY ?_)
      intro a4 c4 w6 ho6 hb6 _
      have hb7 := hb.trans hb6
      clear ho hb hb6
      go_wp2_with fail
      go_ret
      exact ⟨a4, m + 1, c4, rfl, by omega, ho6, hb7⟩
theorem fill_yes {l : List ByteArray} {k : Nat} {x : ByteArray} (hx : l[k]? = some x) (h : 0 < x.size) : (l.take k).filter fullB ++ [x] = (l.take (k + 1)).filter fullB := by
  obtain ⟨h1, h2⟩ := List.getElem?_eq_some_iff.1 hx
  rw [List.take_succ_eq_append_getElem h1, h2, List.filter_append]
  simp [fullB, h]
theorem fill_no {l : List ByteArray} {k : Nat} {x : ByteArray} (hx : l[k]? = some x) (h : x.size = 0) : (l.take k).filter fullB = (l.take (k + 1)).filter fullB := by
  obtain ⟨h1, h2⟩ := List.getElem?_eq_some_iff.1 hx
  rw [List.take_succ_eq_append_getElem h1, h2, List.filter_append]
  simp [fullB, h]
set_option maxHeartbeats 2000000 in
theorem specWords (s : ByteArray) (w : World) (hs : s.size ≤ 1048576) : Calls Tryd.prog 25 #[.string s] w fun e w' => ∃ a' n' c', e = .returned (.slice a' n' c') ∧ n' ≤ 1048577 ∧ Ow eS 1 w' w.heap.size 9 (.slice a' n' c') n' (words s) ∧ Below w.heap.size w w' := by
  have HL1 := Lib.hid (fun w2 => l01Split_any s w2 hs)
  rw [show words s = (cutAll s).filter fullB from rfl]
  revert HL1
  generalize cutAll s = CL
  intro HL1
  go_enter Tryd.func25, Tryd.ntmps25
  go_wp2_with fail
  refine (HL1.out _).mono ?_
  rintro e w2 ⟨a3, n3, c3, rfl, hn3, ho3, hb2⟩
  have HCL := Lib.hid (ho3.len eS_len (by decide))
  have HRD := Lib.hid (ho3.rd eS_len (by decide))
  have HB2 := Lib.hid hb2
  clear ho3 hb2
  have hbb := below_built w2 9
  have hbo := Ow.built eS 1 w2 9
  have HBB := Lib.hid hbb
  have HBO := Lib.hid hbo
  clear hbb hbo
  go_wp2_with fail
  go_loopw [4, 5] (fun o i wr => ∃ (k m : Nat) (a2 : Option Addr) (c2 : Nat), k ≤ n3 ∧ m ≤ k ∧ i = .int .i64 k ∧ o = .slice a2 m c2 ∧ Ow eS 1 wr w2.heap.size 9 (.slice a2 m c2) m ((CL.take k).filter fullB) ∧ Below w2.heap.size w2 wr) (fun _ i _ => n3 - (intOf i).toNat)
  case atStart => exact ⟨0, 0, _, _, Nat.zero_le _, Nat.le_refl _, rfl, rfl, HBO.out, HBB.out⟩
  case round =>
    obtain ⟨k, m, a2, c2, hk, hmk, rfl, rfl, ho, hb⟩ := hrel
    by_cases hlt : k < n3
    · obtain ⟨x, hx, htk⟩ := take_snoc' CL k (by rw [HCL.out]; exact hlt)
      clear htk
      obtain ⟨b, o, hab, _, hc⟩ := (HRD.out.below hb).at1 hx rfl
      subst hab
      have h63 : m + 1 ≤ maxLen := by unfold maxLen; omega
      have hby : (m + 1) * 16 ≤ 140737488355328 := by omega
      by_cases hz : x.size = 0
      · obtain ⟨e1, e2, e3⟩ := nilF hz
        have HY := Lib.hid (fill_no hx hz)
        rw [HY.out] at ho
        clear hx hz
        go_wp2_with fail
        go_roundw
        case rel => exact ⟨k + 1, m, a2, c2, by omega, by omega, by go_num, rfl, ho, hb⟩
        case measure => simp [intOf]; omega
      · obtain ⟨e1, e2, e3⟩ := consF (s := x) (by omega)
        have HY := Lib.hid (fill_yes hx (by omega))
        clear hx hz
        go_wp2_with (at_builtin; refine wpl_app eS_len (by decide) _ rfl (.tmp 20) (.tmp 25) 22 rfl 9 (.string ByteArray.empty) 16 rfl Tryd.underlying22 infoSt w2.heap.size _ m _ rfl wr _ 9 rfl ho x rfl rfl (eS_one _) h63 hby hb.size _ HY ?_)
        intro a4 c4 w6 ho6 hb6 _
        have hb7 := hb.trans hb6
        clear ho hb hb6 e1 e2 e3
        go_wp2_with fail
        go_roundw
        case rel => exact ⟨k + 1, m + 1, a4, c4, by omega, by omega, by go_num, by simp, ho6, hb7⟩
        case measure => simp [intOf]; omega
    · obtain rfl : k = n3 := by omega
      rw [List.take_of_length_le (by rw [HCL.out]; exact Nat.le_refl _)] at ho
      go_wp2_with fail
      go_ret
      exact ⟨a2, m, c2, rfl, by omega, ho.mono HB2.out.size, HB2.out.trans (hb.mono HB2.out.size)⟩
set_option maxHeartbeats 2000000 in
theorem implWords (s : ByteArray) (w : World) (hs : s.size ≤ 1048576) (hM : MaxOk w) : Calls Tryd.prog 28 #[.string s] w fun e w' => ∃ a' n' c', e = .returned (.slice a' n' c') ∧ n' ≤ 1048577 ∧ Ow eS 1 w' w.heap.size 9 (.slice a' n' c') n' (words s) ∧ Below w.heap.size w w' := by
  obtain ⟨h2, mx, hmx⟩ := hM
  have hbb := below_built w 9
  have hbo := Ow.built eS 1 w 9
  have HMX := Lib.hid ((hbb.cell (p := ⟨2, 0, none⟩) h2).trans hmx)
  have HBB0 := Lib.hid hbb
  have HBO0 := Lib.hid hbo
  clear hbb hbo hmx h2
  have HSP : Hid (∀ w', w'.cell? ⟨2, 0, none⟩ = some (.int .i64 mx) → Calls Tryd.prog 50 #[.string s, .string ⟨#[32]⟩] w' fun e w'' => ∃ a3 n3 c3, e = .returned (.slice a3 n3 c3) ∧ n3 ≤ 1048577 ∧ Rd eS 1 w'' a3 (cutAll s) ∧ (cutAll s).length = n3 ∧ Below w'.heap.size w' w'') := Lib.hid fun w' h => by
    refine (Shstrings_Split s ⟨#[32]⟩ mx w' (by omega) h (by decide)).mono fun e w'' ⟨he, hw⟩ => ?_
    have hl := cutAll_len s
    have hle := cutAll_le s
    refine ⟨_, _, _, he, by rw [show Lib.countB s ⟨#[32]⟩ + 1 = (cutAll s).length from hl.symm]; omega, ?_, hl, by rw [hw]; exact (Below.refl _ _).alloc (Nat.le_refl _) _⟩
    intro i x hx
    subst hw
    refine ⟨w'.heap.size, 0, rfl, by simp, fun j u hu => ?_⟩
    have hj : j = 0 := by
      have := (List.getElem?_eq_some_iff.1 hu).1
      simp [eS] at this; exact this
    subst hj
    rw [cell_of_row _ w'.heap.size _ _ 9 (0, 0) (heap_alloc_new w' _)]
    have hu' : u = .string x := by simpa [eS] using hu.symm
    subst hu'
    have hx' : (Lib.splitB ⟨#[32]⟩ 0 (Lib.countB s ⟨#[32]⟩) s)[i]? = some x := hx
    simp [hx']
  rw [show words s = (cutAll s).filter fullB from rfl]
  revert HSP
  generalize cutAll s = CL
  intro HSP
  go_enter Tryd.func28, Tryd.ntmps28
  go_wp2_with fail
  refine (HSP.out _ HMX.out).mono ?_
  rintro e w2 ⟨a3, n3, c3, rfl, hn3, hrd, hcl, hb2⟩
  have HCL := Lib.hid hcl
  have HRD := Lib.hid hrd
  have HBO := Lib.hid (HBO0.out.below hb2)
  have HB2 := Lib.hid (HBB0.out.trans (hb2.mono HBB0.out.size))
  clear hrd hcl hb2 HSP
  go_wp2_with fail
  go_loopw [3, 10] (fun o i wr => ∃ (k m : Nat) (a2 : Option Addr) (c2 : Nat), k ≤ n3 ∧ m ≤ k ∧ i = .int .i64 k ∧ o = .slice a2 m c2 ∧ Hid ((m = 0 ∧ a2 = some ⟨w.heap.size, 0, none⟩ ∧ c2 = 0 ∧ (CL.take k).filter fullB = []) ∨ (0 < m ∧ Ow eS 1 wr w2.heap.size 9 (.slice a2 m c2) m ((CL.take k).filter fullB))) ∧ Below w2.heap.size w2 wr) (fun _ i _ => n3 - (intOf i).toNat)
  case atStart => exact ⟨0, 0, _, _, Nat.zero_le _, Nat.le_refl _, rfl, rfl, Lib.hid (Or.inl ⟨rfl, rfl, rfl, rfl⟩), Below.refl _ _⟩
  case round =>
    obtain ⟨k, m, a2, c2, hk, hmk, rfl, rfl, HO, hb⟩ := hrel
    by_cases hlt : k < n3
    · obtain ⟨x, hx, htk⟩ := take_snoc' CL k (by rw [HCL.out]; exact hlt)
      clear htk
      obtain ⟨b, o, hab, _, hc⟩ := (HRD.out.below hb).at1 hx rfl
      subst hab
      have h63 : m + 1 ≤ maxLen := by unfold maxLen; omega
      have hby : (m + 1) * 16 ≤ 140737488355328 := by omega
      by_cases hz : x.size = 0
      · obtain ⟨e1, e2, e3⟩ := nilF hz
        have HY := Lib.hid (fill_no hx hz)
        have HO2 : Hid ((m = 0 ∧ a2 = some ⟨w.heap.size, 0, none⟩ ∧ c2 = 0 ∧ (CL.take (k + 1)).filter fullB = []) ∨ (0 < m ∧ Ow eS 1 wr w2.heap.size 9 (.slice a2 m c2) m ((CL.take (k + 1)).filter fullB))) := Lib.hid (by rw [← HY.out]; exact HO.out)
        clear hx hz
        go_wp2_with fail
        go_roundw
        case rel => exact ⟨k + 1, m, a2, c2, by omega, by omega, by go_num, rfl, HO2, hb⟩
        case measure => simp [intOf]; omega
      · obtain ⟨e1, e2, e3⟩ := consF (s := x) (by omega)
        have HY := Lib.hid (fill_yes hx (by omega))
        clear hx hz
        rcases HO.out with ⟨rfl, rfl, rfl, hf0⟩ | ⟨hm0, ho⟩
        · have HF : Hid ([x] = (CL.take (k + 1)).filter fullB) := Lib.hid (by rw [← HY.out, hf0]; rfl)
          clear hf0
          go_wp2_with (at_builtin; refine wpl_app0 _ rfl (.tmp 16) (.tmp 18) 22 rfl 9 (.string ByteArray.empty) 16 rfl Tryd.underlying22 infoSt w.heap.size rfl wr _ 9 rfl x rfl rfl (by decide) ?_)
          intro a4 c4 w6 ho6 hb6
          rw [HF.out] at ho6
          have HO6 := Lib.hid (ho6.mono hb.size)
          have hb7 := hb.trans (hb6.mono hb.size)
          clear ho6 hb hb6 e1 e2 e3
          go_wp2_with fail
          go_roundw
          case rel => exact ⟨k + 1, 1, a4, c4, by omega, by omega, by go_num, by simp, Lib.hid (Or.inr ⟨by omega, HO6.out⟩), hb7⟩
          case measure => simp [intOf]; omega
        · go_wp2_with (at_builtin; refine wpl_app eS_len (by decide) _ rfl (.tmp 16) (.tmp 18) 22 rfl 9 (.string ByteArray.empty) 16 rfl Tryd.underlying22 infoSt w2.heap.size _ m _ rfl wr _ 9 rfl ho x rfl rfl (eS_one _) h63 hby hb.size _ HY ?_)
          intro a4 c4 w6 ho6 hb6 _
          have HO6 := Lib.hid ho6
          have hb7 := hb.trans hb6
          clear ho ho6 hb hb6 e1 e2 e3
          go_wp2_with fail
          go_roundw
          case rel => exact ⟨k + 1, m + 1, a4, c4, by omega, by omega, by go_num, by simp, Lib.hid (Or.inr ⟨by omega, HO6.out⟩), hb7⟩
          case measure => simp [intOf]; omega
    · obtain rfl : k = n3 := by omega
      have hfin : Ow eS 1 wr w.heap.size 9 (.slice a2 m c2) m (CL.filter fullB) := by
        have hot := HO.out
        rw [List.take_of_length_le (by rw [HCL.out]; exact Nat.le_refl _)] at hot
        rcases hot with ⟨rfl, rfl, rfl, hf0⟩ | ⟨_, ho⟩
        · rw [hf0]; exact HBO.out.below hb
        · exact ho.mono HB2.out.size
      have HFIN := Lib.hid hfin
      clear hfin
      go_wp2_with fail
      go_ret
      exact ⟨a2, m, c2, rfl, by omega, HFIN.out, HB2.out.trans (hb.mono HB2.out.size)⟩
def wB (x : ByteArray) (wd : Int) : Prop := (x.size : Int) ≤ wd
theorem allFit_bad {wd : Int} {l : List ByteArray} {x : ByteArray} (hx : x ∈ l) (h : ¬ (x.size : Int) ≤ wd) : allFit wd l = false := by
  unfold allFit
  rw [List.all_eq_false]
  exact ⟨x, hx, by simp [fitB, h]⟩
theorem allFit_ok {wd : Int} {l : List ByteArray} (h : ∀ x ∈ l, (x.size : Int) ≤ wd) : allFit wd l = true := by
  unfold allFit
  rw [List.all_eq_true]
  exact fun x hx => by simp [fitB, h x hx]
theorem fold_step {wd : Int} {l : List ByteArray} {k : Nat} {x : ByteArray} (hx : l[k]? = some x) : (l.take (k + 1)).foldl (addW wd) [] = addW wd ((l.take k).foldl (addW wd) []) x := by
  obtain ⟨h1, h2⟩ := List.getElem?_eq_some_iff.1 hx
  rw [List.take_succ_eq_append_getElem h1, h2, List.foldl_append]
  rfl
theorem addW_size {wd : Int} {out : List ByteArray} {x : ByteArray} (ho : ∀ y ∈ out, (y.size : Int) ≤ wd) (hx : (x.size : Int) ≤ wd) : ∀ y ∈ addW wd out x, (y.size : Int) ≤ wd := by
  unfold addW
  split
  · rename_i h
    unfold joins at h
    simp only [Bool.and_eq_true, decide_eq_true_eq] at h
    intro y hy
    rcases List.mem_or_eq_of_mem_set hy with hy | rfl
    · exact ho y hy
    · rw [ByteArray.size_append, ByteArray.size_append]
      have : blankB.size = 1 := rfl
      omega
  · intro y hy
    rcases List.mem_append.1 hy with hy | hy
    · exact ho y hy
    · rw [List.mem_singleton] at hy; rw [hy]; exact hx
theorem joins_yes {wd : Int} {out : List ByteArray} {x l : ByteArray} {n : Nat} (hn : out.length = n) (h0 : 0 < n) (hl : out[n - 1]? = some l) (h : (l.size : Int) + 1 + x.size ≤ wd) : addW wd out x = out.set (n - 1) (l ++ (blankB ++ x)) := by
  have hg : out.getD (out.length - 1) ByteArray.empty = l := by rw [hn, List.getD_eq_getElem?_getD, hl]; rfl
  unfold addW joins
  rw [hg, hn, decide_eq_true h0, decide_eq_true h]
  rfl
theorem joins_no {wd : Int} {out : List ByteArray} {x l : ByteArray} {n : Nat} (hn : out.length = n) (hl : out[n - 1]? = some l) (h : ¬ (l.size : Int) + 1 + x.size ≤ wd) : addW wd out x = out ++ [x] := by
  have hg : out.getD (out.length - 1) ByteArray.empty = l := by rw [hn, List.getD_eq_getElem?_getD, hl]; rfl
  unfold addW joins
  rw [hg, decide_eq_false h, Bool.and_false, if_neg (by simp)]
theorem joins_first {wd : Int} {x : ByteArray} : addW wd [] x = [x] := rfl
theorem wrapC_7 (s : ByteArray) (wd : Int) : wrapC s wd false = 7 := rfl
theorem wrapC_2 {s : ByteArray} {wd : Int} (h : ¬ ((1 ≤ wd ∧ wd ≤ 80) ∧ s.size ≤ 2000)) : wrapC s wd true = 2 := by
  unfold wrapC
  rw [if_pos rfl, if_neg]
  simp only [Bool.and_eq_true, decide_eq_true_eq]
  exact h
theorem wrapC_in {s : ByteArray} {wd : Int} (h : (1 ≤ wd ∧ wd ≤ 80) ∧ s.size ≤ 2000) : wrapC s wd true = if allFit wd (words s) = true then 0 else 5 := by
  unfold wrapC
  rw [if_pos rfl, if_pos]
  simp only [Bool.and_eq_true, decide_eq_true_eq]
  exact h
theorem wrapL_no {s : ByteArray} {wd : Int} {p : Bool} (h : wrapC s wd p ≠ 0) : wrapL s wd p = [] := by unfold wrapL; rw [if_neg h]
theorem wrapL_ok {s : ByteArray} {wd : Int} {p : Bool} (h : wrapC s wd p = 0) : wrapL s wd p = (words s).foldl (addW wd) [] := by unfold wrapL; rw [if_pos h]
theorem szS : (Tryd.prog.info? 9).map (·.size) = some 1 := by kernel_rfl

end Go.Proofs.YtkgkammobogcbaaDoor
