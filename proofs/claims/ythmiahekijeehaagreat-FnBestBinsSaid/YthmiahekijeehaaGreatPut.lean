/-
  A number put into its place in a rising list.
-/
import Derived.Test.YthmiahekijeehaaGreatAppL
import Derived.Test.YthmiahekijeehaaGreatErr0
import Derived.Test.YthmiahekijeehaaGreatBo
import Derived.Deep.Cut
import Derived.BigQuiet
namespace Go.Proofs.YthmiahekijeehaaGreat
open Go.RowKit
set_option maxRecDepth 100000
set_option linter.unusedVariables false
set_option linter.unusedSimpArgs false
theorem infoPu : (Tryz.prog.info? 2).map (fun i => (i.zero, i.size, i.bytes)) = some (some (.int .i64 0), 1, 8) := by kernel_rfl
/-- a number put into its place in a list -/
def putL (n : Int) : List Int → List Int
  | [] => [n]
  | x :: r => if n < x then n :: x :: r else if x = n then x :: r else x :: putL n r
theorem putL_mem (n t : Int) : ∀ l : List Int, t ∈ putL n l ↔ t = n ∨ t ∈ l
  | [] => by simp [putL]
  | x :: r => by
    rw [putL]
    by_cases c : n < x
    · rw [if_pos c]; simp
    · rw [if_neg c]
      by_cases c2 : x = n
      · rw [if_pos c2, c2]; simp
      · rw [if_neg c2, List.mem_cons, putL_mem n t r, List.mem_cons]
        constructor
        · rintro (h | h | h)
          · exact .inr (.inl h)
          · exact .inl h
          · exact .inr (.inr h)
        · rintro (h | h | h)
          · exact .inr (.inl h)
          · exact .inl h
          · exact .inr (.inr h)
theorem putL_ris (n : Int) : ∀ {l : List Int}, l.Pairwise (· < ·) → (putL n l).Pairwise (· < ·)
  | [], _ => by simp [putL]
  | x :: r, h => by
    have h1 := List.pairwise_cons.1 h
    rw [putL]
    by_cases c : n < x
    · rw [if_pos c, List.pairwise_cons]
      refine ⟨fun y hy => ?_, h⟩
      rcases List.mem_cons.1 hy with rfl | hy
      · exact c
      · have := h1.1 y hy; omega
    · rw [if_neg c]
      by_cases c2 : x = n
      · rw [if_pos c2]; exact h
      · rw [if_neg c2, List.pairwise_cons]
        refine ⟨fun y hy => ?_, putL_ris n h1.2⟩
        rcases (putL_mem n y r).1 hy with rfl | hy
        · omega
        · exact h1.1 y hy
theorem putL_len (n : Int) : ∀ l : List Int, (putL n l).length ≤ l.length + 1 ∧ l.length ≤ (putL n l).length
  | [] => by simp [putL]
  | x :: r => by
    have := putL_len n r
    rw [putL]
    by_cases c : n < x
    · rw [if_pos c]; simp
    · rw [if_neg c]
      by_cases c2 : x = n
      · rw [if_pos c2]; simp
      · rw [if_neg c2]; simp only [List.length_cons]; omega
/-- one of the first k is not below n -/
def putD (n : Int) (l : List Int) (k : Nat) : Bool := (l.take k).any fun x => decide (n ≤ x)
/-- the list so far: k numbers are copied -/
def putK (n : Int) (l : List Int) (k : Nat) : List Int := if putD n l k = true then putL n (l.take k) else l.take k
theorem putL_far (n : Int) : ∀ {l : List Int} (x : Int), (l.any fun x => decide (n ≤ x)) = true → putL n (l ++ [x]) = putL n l ++ [x]
  | [], x, h => by cases h
  | y :: r, x, h => by
    rw [List.cons_append, putL, putL]
    by_cases c : n < y
    · rw [if_pos c, if_pos c]; rfl
    · rw [if_neg c, if_neg c]
      by_cases c2 : y = n
      · rw [if_pos c2, if_pos c2]; rfl
      · rw [if_neg c2, if_neg c2]
        rw [List.any_cons, Bool.or_eq_true] at h
        rcases h with h | h
        · have := of_decide_eq_true h; omega
        · rw [putL_far n x h]; rfl
theorem putL_near (n : Int) : ∀ {l : List Int} (x : Int), (l.any fun x => decide (n ≤ x)) = false → putL n (l ++ [x]) = l ++ putL n [x]
  | [], x, h => rfl
  | y :: r, x, h => by
    rw [List.any_cons, Bool.or_eq_false_iff] at h
    have h1 : ¬ n ≤ y := of_decide_eq_false h.1
    rw [List.cons_append, putL, if_neg (by omega), if_neg (by omega), putL_near n x h.2]; rfl
theorem putL_nearE (n : Int) : ∀ {l : List Int}, (l.any fun x => decide (n ≤ x)) = false → putL n l = l ++ [n]
  | [], h => rfl
  | y :: r, h => by
    rw [List.any_cons, Bool.or_eq_false_iff] at h
    have h1 : ¬ n ≤ y := of_decide_eq_false h.1
    rw [putL, if_neg (by omega), if_neg (by omega), putL_nearE n h.2]; rfl
theorem putD_zero (n : Int) (l : List Int) : putD n l 0 = false := by simp [putD]
theorem putK_zero (n : Int) (l : List Int) : putK n l 0 = [] := by unfold putK; rw [putD_zero]; rfl
theorem putD_next {n x : Int} {l : List Int} {k : Nat} (hx : l[k]? = some x) : putD n l (k + 1) = (putD n l k || decide (n ≤ x)) := by
  unfold putD; rw [List.take_add_one, hx, Option.toList_some, List.any_append]; simp
theorem putK_done {n x : Int} {l : List Int} {k : Nat} (hx : l[k]? = some x) (hd : putD n l k = true) : putK n l (k + 1) = putK n l k ++ [x] := by
  unfold putK; rw [putD_next hx, hd, Bool.true_or, if_pos rfl, if_pos rfl, List.take_add_one, hx, Option.toList_some, putL_far n x hd]
theorem putK_less {n x : Int} {l : List Int} {k : Nat} (hx : l[k]? = some x) (hd : putD n l k = false) (hn : ¬ n ≤ x) : putK n l (k + 1) = putK n l k ++ [x] := by
  unfold putK; rw [putD_next hx, hd, Bool.false_or, decide_eq_false hn, if_neg (by decide), if_neg (by decide), List.take_add_one, hx, Option.toList_some]
theorem putK_same {n x : Int} {l : List Int} {k : Nat} (hx : l[k]? = some x) (hd : putD n l k = false) (hn : x = n) : putK n l (k + 1) = putK n l k ++ [x] := by
  unfold putK; rw [putD_next hx, hd, Bool.false_or, decide_eq_true (by omega), if_pos rfl, if_neg (by decide), List.take_add_one, hx, Option.toList_some, putL_near n x hd, putL, if_neg (by omega), if_pos hn]
theorem putK_more {n x : Int} {l : List Int} {k : Nat} (hx : l[k]? = some x) (hd : putD n l k = false) (hn : n < x) : putK n l (k + 1) = (putK n l k ++ [n]) ++ [x] := by
  unfold putK; rw [putD_next hx, hd, Bool.false_or, decide_eq_true (by omega), if_pos rfl, if_neg (by decide), List.take_add_one, hx, Option.toList_some, putL_near n x hd, putL, if_pos hn]; simp
theorem putK_len (n : Int) (l : List Int) {k : Nat} (hk : k ≤ l.length) : (putK n l k).length ≤ k + 1 := by
  unfold putK
  by_cases c : putD n l k = true
  · rw [if_pos c]; have := (putL_len n (l.take k)).1; rw [List.length_take] at this; omega
  · rw [if_neg c, List.length_take]; omega
theorem putK_end {n : Int} {l : List Int} (h : putD n l l.length = true) : putK n l l.length = putL n l := by unfold putK; rw [if_pos h, List.take_of_length_le (Nat.le_refl _)]
theorem putK_end0 {n : Int} {l : List Int} (h : putD n l l.length = false) : putK n l l.length ++ [n] = putL n l := by
  unfold putK; unfold putD at h
  rw [putD, h, if_neg (by decide)]
  rw [List.take_of_length_le (Nat.le_refl _)] at h ⊢
  exact (putL_nearE n h).symm
set_option maxHeartbeats 2000000 in
theorem l00Put_any (ls : List Int) (a : Option Addr) (m c : Nat) (v : Int) (w : World) (hm : m ≤ 1000) (hl : ls.length = m) (hr : Rd eI 1 w a ls) :
    Calls Tryz.prog 41 #[.slice a m c, .int .i64 v] w fun e w' => ∃ (a' : Option Addr) (k c' : Nat), e = .returned (.slice a' k c') ∧ k ≤ m + 1 ∧ Ow eI 1 w' w.heap.size 2 (.slice a' k c') k (putL v ls) ∧ Below w.heap.size w w' := by
  have HL := Lib.hid hl
  have HR := Lib.hid hr
  have HO0 := Lib.hid (Ow.built eI 1 w 2)
  have HB0 := Lib.hid (below_built w 2)
  obtain ⟨w0, hw0⟩ : ∃ z, w.alloc (.cells #[] 2) = z := ⟨_, rfl⟩
  rw [hw0] at HO0 HB0
  have HW0 := Lib.hid hw0
  clear hl hr hw0
  go_enter Tryz.func41, Tryz.ntmps41
  go_wp2_with fail
  rw [HW0.out]
  clear HW0
  go_loopw [5, 6, 7] (fun vo vd vi wr => ∃ (k N : Nat) (aO : Option Addr) (cO : Nat), k ≤ m ∧ N ≤ k + 1 ∧ vo = .slice aO N cO ∧ vd = .bool (putD v ls k) ∧ vi = .int .i64 (k : Int) ∧ Hid (Ow eI 1 wr w.heap.size 2 (.slice aO N cO) N (putK v ls k)) ∧ Hid (Below w.heap.size w wr)) (fun _ _ vi _ => m - (intOf vi).toNat)
  case atStart => exact ⟨0, 0, _, _, Nat.zero_le _, by omega, rfl, by rw [putD_zero], rfl, Lib.hid (by rw [putK_zero]; exact HO0.out), HB0⟩
  case round =>
    obtain ⟨k, N, aO, cO, hk, hN, rfl, rfl, rfl, HOk, HBk⟩ := hrel
    obtain ⟨wp, hwp⟩ : ∃ wx, wx = wr := ⟨_, rfl⟩
    subst hwp
    by_cases hlt : k < m
    · obtain ⟨x, hx⟩ : ∃ z, ls[k]? = some z := ⟨_, List.getElem?_eq_getElem (by rw [HL.out]; exact hlt)⟩
      have HXx := Lib.hid hx
      obtain ⟨b, ob, hab, hC⟩ := HR.out.addr1 (by rw [HL.out]; omega) (fun _ => rfl)
      subst hab
      have HC := Lib.hid hC
      have hNk : N ≤ k + 1 := hN
      clear hx hC hN
      have c8 : wp.cell? ⟨b, ob + k, none⟩ = some (.int .i64 x) := HC.out k x HXx.out wp HBk.out
      have j9a : (0 : Int) ≤ (k : Nat) := by omega
      have j9b : ((k : Nat) : Int) < m := by omega
      cases hpd : putD v ls k with
      | true =>
        have HDN : Hid (putD v ls (k + 1) = true) := Lib.hid (by rw [putD_next HXx.out, hpd]; rfl)
        have HPK := Lib.hid (putK_done HXx.out hpd)
        clear hpd
        go_upto_region 10 with (fail)
        have h63 : N + 1 ≤ maxLen := by unfold maxLen; omega
        have hby : (N + 1) * 8 ≤ 140737488355328 := by omega
        have hszt : w.heap.size ≤ wp.heap.size := HBk.out.size
        obtain ⟨ys9, hys⟩ : ∃ ys, putK v ls k ++ [(x : Int)] = ys := ⟨_, rfl⟩
        have HYS9 := Lib.hid hys
        clear hys
        go_wp2_with (at_builtin; refine wpl_app eI_len (by decide) _ rfl (.tmp 35) (.tmp 40) 39 rfl 2 _ 8 rfl Tryz.underlying39 infoPu w.heap.size _ (N) _ rfl wp _ _ rfl HOk.out (x : Int) rfl rfl (eI_one _) h63 hby hszt ys9 HYS9 ?_)
        intro a9 c9 w9 ho9 hb9 hs9
        have HO9 := Lib.hid ho9
        have HB9 := Lib.hid (HBk.out.trans hb9)
        clear ho9 hb9 hs9 h63 hby hszt
        go_wp2_with fail
        go_roundw
        case rel => exact ⟨k + 1, N + 1, a9, c9, by omega, by omega, rfl, by rw [HDN.out], by go_num, Lib.hid (by rw [HPK.out, HYS9.out]; exact HO9.out), HB9⟩
        case measure => simp [intOf]; omega
      | false =>
        by_cases hvx : v ≤ x
        · have d1 : decide (v ≤ x) = true := decide_eq_true hvx
          have HDN : Hid (putD v ls (k + 1) = true) := Lib.hid (by rw [putD_next HXx.out, hpd, d1]; rfl)
          by_cases hvy : v < x
          · have d2 : decide (v < x) = true := decide_eq_true hvy
            have HPK := Lib.hid (putK_more HXx.out hpd hvy)
            have hN2 : N ≤ k := by
              have h9 := HOk.out.len eI_len (by decide)
              unfold putK at h9
              rw [hpd, if_neg (by decide), List.length_take] at h9
              omega
            clear hpd hvx hvy
            go_upto_region 9 with (fail)
            have h63 : N + 1 ≤ maxLen := by unfold maxLen; omega
            have hby : (N + 1) * 8 ≤ 140737488355328 := by omega
            have hszt : w.heap.size ≤ wp.heap.size := HBk.out.size
            obtain ⟨ys7, hys⟩ : ∃ ys, putK v ls k ++ [(v : Int)] = ys := ⟨_, rfl⟩
            have HYS7 := Lib.hid hys
            clear hys
            go_wp2_with (at_builtin; refine wpl_app eI_len (by decide) _ rfl (.tmp 31) (.tmp 33) 39 rfl 2 _ 8 rfl Tryz.underlying39 infoPu w.heap.size _ (N) _ rfl wp _ _ rfl HOk.out (v : Int) rfl rfl (eI_one _) h63 hby hszt ys7 HYS7 ?_)
            intro a7 c7 w7 ho9 hb9 hs9
            have HO7 := Lib.hid ho9
            have HB7 := Lib.hid (HBk.out.trans hb9)
            clear ho9 hb9 hs9 h63 hby hszt
            clear c8 j9a j9b
            have c7 : w7.cell? ⟨b, ob + k, none⟩ = some (.int .i64 x) := HC.out k x HXx.out w7 HB7.out
            have j9a : (0 : Int) ≤ (k : Nat) := by omega
            have j9b : ((k : Nat) : Int) < m := by omega
            go_upto_region 10 with (fail)
            have h63 : N + 1 + 1 ≤ maxLen := by unfold maxLen; omega
            have hby : (N + 1 + 1) * 8 ≤ 140737488355328 := by omega
            have hszt : w.heap.size ≤ w7.heap.size := HB7.out.size
            obtain ⟨ys9, hys⟩ : ∃ ys, ys7 ++ [(x : Int)] = ys := ⟨_, rfl⟩
            have HYS9 := Lib.hid hys
            clear hys
            go_wp2_with (at_builtin; refine wpl_app eI_len (by decide) _ rfl (.tmp 35) (.tmp 40) 39 rfl 2 _ 8 rfl Tryz.underlying39 infoPu w.heap.size _ (N + 1) _ rfl w7 _ _ rfl HO7.out (x : Int) rfl rfl (eI_one _) h63 hby hszt ys9 HYS9 ?_)
            intro a9 c9 w9 ho9 hb9 hs9
            have HO9 := Lib.hid ho9
            have HB9 := Lib.hid (HB7.out.trans hb9)
            clear ho9 hb9 hs9 h63 hby hszt
            go_wp2_with fail
            go_roundw
            case rel => exact ⟨k + 1, N + 1 + 1, a9, c9, by omega, by omega, rfl, by rw [HDN.out], by go_num, Lib.hid (by rw [HPK.out, HYS7.out, HYS9.out]; exact HO9.out), HB9⟩
            case measure => simp [intOf]; omega
          · have d2 : decide (v < x) = false := decide_eq_false hvy
            have HPK := Lib.hid (putK_same HXx.out hpd (show x = v by omega))
            clear hpd hvx hvy
            go_upto_region 10 with (fail)
            have h63 : N + 1 ≤ maxLen := by unfold maxLen; omega
            have hby : (N + 1) * 8 ≤ 140737488355328 := by omega
            have hszt : w.heap.size ≤ wp.heap.size := HBk.out.size
            obtain ⟨ys9, hys⟩ : ∃ ys, putK v ls k ++ [(x : Int)] = ys := ⟨_, rfl⟩
            have HYS9 := Lib.hid hys
            clear hys
            go_wp2_with (at_builtin; refine wpl_app eI_len (by decide) _ rfl (.tmp 35) (.tmp 40) 39 rfl 2 _ 8 rfl Tryz.underlying39 infoPu w.heap.size _ (N) _ rfl wp _ _ rfl HOk.out (x : Int) rfl rfl (eI_one _) h63 hby hszt ys9 HYS9 ?_)
            intro a9 c9 w9 ho9 hb9 hs9
            have HO9 := Lib.hid ho9
            have HB9 := Lib.hid (HBk.out.trans hb9)
            clear ho9 hb9 hs9 h63 hby hszt
            go_wp2_with fail
            go_roundw
            case rel => exact ⟨k + 1, N + 1, a9, c9, by omega, by omega, rfl, by rw [HDN.out], by go_num, Lib.hid (by rw [HPK.out, HYS9.out]; exact HO9.out), HB9⟩
            case measure => simp [intOf]; omega
        · have d1 : decide (v ≤ x) = false := decide_eq_false hvx
          have HDN : Hid (putD v ls (k + 1) = false) := Lib.hid (by rw [putD_next HXx.out, hpd, d1]; rfl)
          have HPK := Lib.hid (putK_less HXx.out hpd hvx)
          clear hpd hvx
          go_upto_region 10 with (fail)
          have h63 : N + 1 ≤ maxLen := by unfold maxLen; omega
          have hby : (N + 1) * 8 ≤ 140737488355328 := by omega
          have hszt : w.heap.size ≤ wp.heap.size := HBk.out.size
          obtain ⟨ys9, hys⟩ : ∃ ys, putK v ls k ++ [(x : Int)] = ys := ⟨_, rfl⟩
          have HYS9 := Lib.hid hys
          clear hys
          go_wp2_with (at_builtin; refine wpl_app eI_len (by decide) _ rfl (.tmp 35) (.tmp 40) 39 rfl 2 _ 8 rfl Tryz.underlying39 infoPu w.heap.size _ (N) _ rfl wp _ _ rfl HOk.out (x : Int) rfl rfl (eI_one _) h63 hby hszt ys9 HYS9 ?_)
          intro a9 c9 w9 ho9 hb9 hs9
          have HO9 := Lib.hid ho9
          have HB9 := Lib.hid (HBk.out.trans hb9)
          clear ho9 hb9 hs9 h63 hby hszt
          go_wp2_with fail
          go_roundw
          case rel => exact ⟨k + 1, N + 1, a9, c9, by omega, by omega, rfl, by rw [HDN.out], by go_num, Lib.hid (by rw [HPK.out, HYS9.out]; exact HO9.out), HB9⟩
          case measure => simp [intOf]; omega
    · have hkm : k = m := by omega
      have HKM : Hid (ls.length = k) := Lib.hid (by rw [HL.out, hkm])
      cases hpd : putD v ls k with
      | true =>
        have HE : Hid (putK v ls k = putL v ls) := Lib.hid (by have h9 := putK_end (n := v) (l := ls) (by rw [HKM.out]; exact hpd); rw [HKM.out] at h9; exact h9)
        clear hpd
        go_wp2_with fail
        go_ret
        exact ⟨_, N, _, rfl, by omega, by rw [← HE.out]; exact HOk.out, HBk.out⟩
      | false =>
        have HE : Hid (putK v ls k ++ [v] = putL v ls) := Lib.hid (by have h9 := putK_end0 (n := v) (l := ls) (by rw [HKM.out]; exact hpd); rw [HKM.out] at h9; exact h9)
        have HNL : Hid (N = (putK v ls k).length) := Lib.hid (HOk.out.len eI_len (by decide)).symm
        have hN2 : N ≤ m := by
          have h9 := HNL.out
          unfold putK at h9
          rw [hpd, if_neg (by decide), List.length_take] at h9
          omega
        clear hpd
        have h63 : N + 1 ≤ maxLen := by unfold maxLen; omega
        have hby : (N + 1) * 8 ≤ 140737488355328 := by omega
        have hszt : w.heap.size ≤ wp.heap.size := HBk.out.size
        obtain ⟨ys9, hys⟩ : ∃ ys, putK v ls k ++ [(v : Int)] = ys := ⟨_, rfl⟩
        have HYS9 := Lib.hid hys
        clear hys
        go_wp2_with (at_builtin; refine wpl_app eI_len (by decide) _ rfl (.tmp 44) (.tmp 46) 39 rfl 2 _ 8 rfl Tryz.underlying39 infoPu w.heap.size _ (N) _ rfl wp _ _ rfl HOk.out (v : Int) rfl rfl (eI_one _) h63 hby hszt ys9 HYS9 ?_)
        intro a9 c9 w9 ho9 hb9 hs9
        have HO9 := Lib.hid ho9
        have HB9 := Lib.hid (HBk.out.trans hb9)
        clear ho9 hb9 hs9 h63 hby hszt
        go_wp2_with fail
        go_ret
        exact ⟨_, N + 1, _, rfl, by omega, by rw [← HE.out, HYS9.out]; exact HO9.out, HB9.out⟩
end Go.Proofs.YthmiahekijeehaaGreat
