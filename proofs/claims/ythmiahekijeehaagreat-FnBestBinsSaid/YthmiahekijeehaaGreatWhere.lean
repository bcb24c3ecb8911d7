/-
  The indices that are wanted: 'indicesWhere', for any wanted function.
-/
import Derived.Test.YthmiahekijeehaaGreatBasic
import Derived.Test.YthmiahekijeehaaGreatMore
import Derived.Deep.RegionWith
namespace Go.Proofs.YthmiahekijeehaaGreat
open Go.RowKit
set_option maxRecDepth 100000

def whereL (n : Nat) (p : Nat → Bool) : List Int := ((List.range n).filter p).map (fun (i : Nat) => (i : Int))
theorem whereL_zero (p : Nat → Bool) : whereL 0 p = [] := rfl
theorem whereL_yes {n : Nat} {p : Nat → Bool} (h : p n = true) : whereL n p ++ [(n : Int)] = whereL (n + 1) p := by
  simp [whereL, List.range_succ, h]
theorem whereL_no {n : Nat} {p : Nat → Bool} (h : p n = false) : whereL n p = whereL (n + 1) p := by
  simp [whereL, List.range_succ, h]
theorem whereL_le (n : Nat) (p : Nat → Bool) : (whereL n p).length ≤ n := by
  have := List.length_filter_le p (List.range n)
  simpa [whereL] using this
theorem whereL_congr {n : Nat} {p q : Nat → Bool} (h : ∀ i, i < n → p i = q i) : whereL n p = whereL n q := by
  unfold whereL
  rw [List.filter_congr (fun x hx => h x (List.mem_range.1 hx))]

theorem infoI64 : (Tryz.prog.info? 2).map (fun i => (i.zero, i.size, i.bytes)) = some (some (.int .i64 0), 1, 8) := by kernel_rfl
set_option maxHeartbeats 1000000 in
theorem indicesWhere_any (n : Nat) (p : Nat → Bool) (f : FuncId) (cs : Array Value) (w : World) (hn : n ≤ 1048576)
    (hcf : ∀ (args : Array Value) (wx : World), (callFunc f args).run Tryz.prog wx = .ok (.enter f args) wx)
    (hf : ∀ (i : Nat) (w' : World), i < n → Below w.heap.size w w' → Calls Tryz.prog f (#[.int .i64 i] ++ cs) w' fun e w'' => e = .returned (.bool (p i)) ∧ Below w'.heap.size w' w'') :
    Calls Tryz.prog 92 #[.int .i64 n, .func (.func f) #[] cs] w fun e w' => ∃ a' n' c', e = .returned (.slice a' n' c') ∧ n' ≤ n ∧ Ow eI 1 w' w.heap.size 2 (.slice a' n' c') n' (whereL n p) ∧ Below w.heap.size w w' := by
  have HF := Lib.hid hf
  clear hf
  go_enter Tryz.func92, Tryz.ntmps92
  go_wp2_with fail
  go_loopw [5, 9] (fun o i wr => ∃ k m : Nat, ∃ a' c', k ≤ n ∧ m ≤ k ∧ i = .int .i64 k ∧ o = .slice a' m c' ∧ Ow eI 1 wr w.heap.size 2 (.slice a' m c') m (whereL k p) ∧ Below w.heap.size w wr) (fun _ i _ => n - (intOf i).toNat)
  case atStart => exact ⟨0, 0, _, _, Nat.zero_le _, Nat.le_refl _, rfl, rfl, Ow.built _ _ _ _, below_built _ _⟩
  case round =>
    obtain ⟨k, m, a', c', hk, hm, rfl, rfl, hown, hb⟩ := hrel
    by_cases hlt : k < n
    · cases hp : p k with
      | true =>
        have HP := Lib.hid hp
        clear hp
        go_wp2_with fail
        refine (HF.out k _ hlt hb).mono ?_
        rintro e w1 ⟨rfl, hb1⟩
        rw [HP.out]
        have hown1 := hown.below hb1
        have hb2 := hb.trans (hb1.mono hb.size)
        have hY : Hid (whereL k p ++ [(k : Int)] = whereL (k + 1) p) := Lib.hid (whereL_yes HP.out)
        have h63 : m + 1 ≤ maxLen := by unfold maxLen; omega
        have hby : (m + 1) * 8 ≤ 140737488355328 := by omega
        clear hb1 hown hb
        go_wp2_with (at_builtin; refine wpl_app eI_len (by decide) _ rfl (.tmp 15) (.tmp 17) 39 rfl 2 (.int .i64 0) 8 rfl Tryz.underlying39 infoI64 w.heap.size _ m _ rfl w1 _ 2 rfl hown1 (k : Int) rfl rfl (eI_one _) h63 hby hb2.size _ hY ?_)
        intro a2 c2 w2 hown2 hb3 _
        have hb4 := hb2.trans hb3
        go_wp2_with fail
        go_roundw
        case rel => exact ⟨k + 1, m + 1, a2, c2, by omega, by omega, by go_num, by simp, hown2, hb4⟩
        case measure => simp [intOf]; omega
      | false =>
        have HP := Lib.hid hp
        clear hp
        go_wp2_with fail
        refine (HF.out k _ hlt hb).mono ?_
        rintro e w1 ⟨rfl, hb1⟩
        rw [HP.out]
        have hown1 := hown.below hb1
        have hb2 := hb.trans (hb1.mono hb.size)
        rw [whereL_no HP.out] at hown1
        clear hb1 hown hb
        go_wp2_with fail
        go_roundw
        case rel => exact ⟨k + 1, m, a', c', by omega, by omega, by go_num, rfl, hown1, hb2⟩
        case measure => simp [intOf]; omega
    · obtain rfl : k = n := by omega
      go_wp2_with fail
      go_ret
      exact ⟨_, _, _, rfl, hm, hown, hb⟩
end Go.Proofs.YthmiahekijeehaaGreat
