/-
  Lists in order: one order alone; an element put to its place. Copies of a list's part.
-/
import Derived.Test.YtloggipjmaiegaaFo1
namespace Go.Proofs.Ytloggipjmaiegaa
open Go.RowKit
set_option maxRecDepth 100000
set_option linter.unusedVariables false
theorem sorted_one {key : Int → Int} : ∀ {L L' : List Int}, L.Perm L' → L.Pairwise (slt key) → L'.Pairwise (slt key) → L = L'
  | [], L', hp, _, _ => (List.Perm.nil_eq hp)
  | x :: r, [], hp, _, _ => absurd hp.length_eq (by simp)
  | x :: r, y :: r', hp, h, h' => by
    have hxy : x = y := by
      have h1 : x ∈ y :: r' := hp.mem_iff.1 (by simp)
      have h2 : y ∈ x :: r := hp.mem_iff.2 (by simp)
      rcases List.mem_cons.1 h1 with h1 | h1
      · exact h1
      · rcases List.mem_cons.1 h2 with h2 | h2
        · exact h2.symm
        · have h3 := (List.pairwise_cons.1 h).1 y h2
          have h4 := (List.pairwise_cons.1 h').1 x h1
          unfold slt at h3 h4
          omega
    subst hxy
    rw [sorted_one (List.Perm.cons_inv hp) (List.pairwise_cons.1 h).2 (List.pairwise_cons.1 h').2]
theorem SrtOf.one {key : Int → Int} {X L L' : List Int} (h : SrtOf key X L) (h' : SrtOf key X L') : L = L' := sorted_one (h.1.trans h'.1.symm) h.2 h'.2
theorem whereT_succ (k : Nat) : (whereL (k + 1) fun _ => true) = (whereL k fun _ => true) ++ [(k : Int)] := (whereL_yes rfl).symm
theorem SrtOf.mem {key : Int → Int} {n : Nat} {L : List Int} (h : SrtOf key (whereL n fun _ => true) L) {x : Int} (hx : x ∈ L) : 0 ≤ x ∧ x < (n : Int) := whereT_mem n x (h.1.mem_iff.1 hx)
theorem SrtOf.len {key : Int → Int} {n : Nat} {L : List Int} (h : SrtOf key (whereL n fun _ => true) L) : L.length = n := by rw [h.1.length_eq, whereT_len]
theorem SrtOf.ins {key : Int → Int} {k m : Nat} {L : List Int} (h : SrtOf key (whereL k fun _ => true) L) (hm : m ≤ k) (h1 : ∀ (q : Nat) (x : Int), m ≤ q → L[q]? = some x → key k < key x) (h2 : m = 0 ∨ ∃ x, L[m - 1]? = some x ∧ ¬ key k < key x) : SrtOf key (whereL (k + 1) fun _ => true) (L.take m ++ [(k : Int)] ++ L.drop m) := by
  have hl := h.len
  have hpw := h.2
  rw [← List.take_append_drop m L, List.pairwise_append] at hpw
  have hT : ∀ p ∈ L.take m, slt key p (k : Int) := fun p hp => by
    obtain ⟨i, hi, rfl⟩ := List.getElem_of_mem hp
    rw [List.length_take] at hi
    rw [List.getElem_take]
    rcases h2 with h0 | ⟨x, hx, hle⟩
    · omega
    · have hxl : m - 1 < L.length := (List.getElem?_eq_some_iff.1 hx).1
      have hxe := (List.getElem?_eq_some_iff.1 hx).2
      have hxk : x < (k : Int) := (h.mem (List.mem_of_getElem? hx)).2
      have hxs : slt key x k := by unfold slt; omega
      by_cases he : i = m - 1
      · subst he; rw [hxe]; exact hxs
      · have h3 := (List.pairwise_iff_getElem.1 h.2) i (m - 1) (by omega) hxl (by omega)
        rw [hxe] at h3
        exact slt_trans h3 hxs
  refine ⟨?_, ?_⟩
  · rw [whereT_succ]
    have e : (L.take m ++ [(k : Int)] ++ L.drop m).Perm (L ++ [(k : Int)]) := by
      rw [List.append_assoc]
      have e2 : ([(k : Int)] ++ L.drop m).Perm (L.drop m ++ [(k : Int)]) := List.perm_append_comm
      refine ((List.perm_append_left_iff _).2 e2).trans ?_
      rw [← List.append_assoc, List.take_append_drop]
    exact e.trans (h.1.append_right _)
  · rw [List.pairwise_append, List.pairwise_append]
    refine ⟨⟨hpw.1, by simp, ?_⟩, hpw.2.1, ?_⟩
    · intro p hp q hq
      have : q = (k : Int) := by simpa using hq
      rw [this]; exact hT p hp
    · intro p hp q hq
      obtain ⟨j, hj, rfl⟩ := List.getElem_of_mem hq
      rw [List.length_drop] at hj
      rw [List.getElem_drop]
      rcases List.mem_append.1 hp with hp | hp
      · exact hpw.2.2 p hp _ (by rw [← List.getElem_drop (h := by omega)]; exact List.getElem_mem _)
      · have : p = (k : Int) := by simpa using hp
        rw [this]
        exact .inl (h1 (m + j) _ (by omega) (List.getElem?_eq_getElem (by omega)))
theorem Ow.cap {w : World} {base e g n cap : Nat} {xs : List Int} (h : Ow eI 1 w base e (.slice (some ⟨g, 0, none⟩) n cap) n xs) : n ≤ cap := by
  rcases h.2 with ⟨h', _⟩ | ⟨g', cap', cur, h', _, _, hnc, _⟩
  · simp at h'
  · simp only [Value.slice.injEq, Option.some.injEq, Addr.mk.injEq, and_true, true_and] at h'
    omega
theorem Rd.takeI {w : World} {a : Option Addr} {xs : List Int} (h : Rd eI 1 w a xs) (m : Nat) : Rd eI 1 w a (xs.take m) := fun i x hx => by
  rw [List.getElem?_take] at hx
  split at hx
  · exact h i x hx
  · cases hx
theorem Rd.dropI {w : World} {b o : Nat} {xs : List Int} (h : Rd eI 1 w (some ⟨b, o, none⟩) xs) (m : Nat) : Rd eI 1 w (some ⟨b, o + m, none⟩) (xs.drop m) := fun i x hx => by
  rw [List.getElem?_drop] at hx
  obtain ⟨b', o', he, hlt, hc⟩ := h (m + i) x hx
  cases he
  exact ⟨b, o + m, rfl, hlt, fun j u hu => by have := hc j u hu; rw [show o + m + i * 1 + j = o + (m + i) * 1 + j by omega]; exact this⟩
set_option maxHeartbeats 1000000 in
theorem l00Own_any (xs : List Int) (a : Option Addr) (n c : Nat) (w : World) (hn : n ≤ 1048576) (hl : xs.length = n) (hr : Rd eI 1 w a xs) : Calls Try.prog 221 #[.slice a n c] w fun e w' => ∃ a' c', e = .returned (.slice a' n c') ∧ Ow eI 1 w' w.heap.size 2 (.slice a' n c') n xs ∧ Below w.heap.size w w' := by
  have HL := Lib.hid hl
  clear hl
  have hb0 := below_built w 2
  have ho := Ow.built eI 1 w 2
  have hr' := hr.below hb0
  have hsz : w.heap.size ≤ (w.alloc (.cells #[] 2)).heap.size := hb0.size
  have hn0 : 0 + n ≤ maxLen := by unfold maxLen; omega
  have hn1 : (0 + n) * 8 ≤ 140737488355328 := by omega
  have hy : Hid ([] ++ xs = xs) := Lib.hid rfl
  go_enter Try.func221, Try.ntmps221
  go_wp2_with (at_builtin; refine wpl_apps eI_len (by decide) eI_one _ rfl (.tmp 3) (.tmp 4) 30 rfl 2 (.int .i64 0) 8 rfl Try.underlying30 infoI64 w.heap.size _ 0 _ rfl ho xs n HL.out a c rfl hr' hn0 hn1 hsz xs hy ?_)
  intro a' c' w' ho' hb'
  go_wp2_with fail
  go_ret
  exact ⟨a', c', by simp, by simpa using ho', hb0.trans hb'⟩
end Go.Proofs.Ytloggipjmaiegaa
