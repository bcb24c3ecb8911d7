/-
  The states of points.
-/
import Derived.Test.YtlgjdfagmeehcaaOu1
namespace Go.Proofs.Ytlgjdfagmeehcaa
open Go.RowKit
set_option maxRecDepth 100000
theorem begO_any (m x y : Int) (g : Nat) (w : World) (hc : CAt w g #[.int .i64 x, .int .i64 y] 58) : Calls Try.prog 138 #[.int .i64 m, .pointer (some ⟨g, 0, none⟩)] w fun e w' => e = .returned (.bool (decide (m ≤ x))) ∧ Below w.heap.size w w' := by
  have c0 : w.cell? ⟨g, 0, none⟩ = some (.int .i64 x) := hc.cell 0
  obtain ⟨D, hD⟩ : ∃ D, decide (m ≤ x) = D := ⟨_, rfl⟩
  rw [hD]
  clear hc
  go_enter Try.func138, Try.ntmps138
  go_wp2_with fail
  go_ret
  exact ⟨rfl, Below.refl _ _⟩
theorem endO_any (m x y : Int) (g : Nat) (w : World) (hc : CAt w g #[.int .i64 x, .int .i64 y] 58) : Calls Try.prog 139 #[.int .i64 m, .pointer (some ⟨g, 0, none⟩)] w fun e w' => e = .returned (.bool (decide (y < m))) ∧ Below w.heap.size w w' := by
  have c0 : w.cell? ⟨g, 1, none⟩ = some (.int .i64 y) := hc.cell 1
  obtain ⟨D, hD⟩ : ∃ D, decide (y < m) = D := ⟨_, rfl⟩
  rw [hD]
  clear hc
  go_enter Try.func139, Try.ntmps139
  go_wp2_with fail
  go_ret
  exact ⟨rfl, Below.refl _ _⟩
theorem begF_any (m x y : Int) (g : Nat) (w : World) (hc : CAt w g #[.int .i64 x, .int .i64 y] 58) : Calls Try.prog 92 #[.int .i64 m, .pointer (some ⟨g, 0, none⟩)] w fun e w' => e = .returned (.bool (decide (y ≤ m))) ∧ Below w.heap.size w w' := by
  have c0 : w.cell? ⟨g, 1, none⟩ = some (.int .i64 y) := hc.cell 1
  obtain ⟨D, hD⟩ : ∃ D, decide (y ≤ m) = D := ⟨_, rfl⟩
  rw [hD]
  clear hc
  go_enter Try.func92, Try.ntmps92
  go_wp2_with fail
  go_ret
  exact ⟨rfl, Below.refl _ _⟩
theorem endF_any (m x y : Int) (g : Nat) (w : World) (hc : CAt w g #[.int .i64 x, .int .i64 y] 58) : Calls Try.prog 93 #[.int .i64 m, .pointer (some ⟨g, 0, none⟩)] w fun e w' => e = .returned (.bool (decide (m < x))) ∧ Below w.heap.size w w' := by
  have c0 : w.cell? ⟨g, 0, none⟩ = some (.int .i64 x) := hc.cell 0
  obtain ⟨D, hD⟩ : ∃ D, decide (m < x) = D := ⟨_, rfl⟩
  rw [hD]
  clear hc
  go_enter Try.func93, Try.ntmps93
  go_wp2_with fail
  go_ret
  exact ⟨rfl, Below.refl _ _⟩
set_option maxHeartbeats 4000000 in
theorem states_any (B S : Int → Bool) (s : Nat → Bool) (ps : List Pt) (a : Option Addr) (n c : Nat) (f1 f2 : FuncId) (cs : Array Value) (w : World) (hn : n ≤ 200) (hl : ps.length = n) (hr : Rd Pt.enc 2 w a ps)
    (hs0 : s 0 = false) (hs : ∀ k p, ps[k]? = some p → s (k + 1) = if s k = true then S p.mag else B p.mag)
    (hc1 : ∀ (args : Array Value) (wx : World), (callFunc f1 args).run Try.prog wx = .ok (.enter f1 args) wx)
    (hc2 : ∀ (args : Array Value) (wx : World), (callFunc f2 args).run Try.prog wx = .ok (.enter f2 args) wx)
    (hf1 : ∀ (m : Int) (w' : World), Below w.heap.size w w' → Calls Try.prog f1 (#[.int .i64 m] ++ cs) w' fun e w'' => e = .returned (.bool (B m)) ∧ Below w'.heap.size w' w'')
    (hf2 : ∀ (m : Int) (w' : World), Below w.heap.size w w' → Calls Try.prog f2 (#[.int .i64 m] ++ cs) w' fun e w'' => e = .returned (.bool (!(S m))) ∧ Below w'.heap.size w' w'') :
    Calls Try.prog 91 #[.slice a n c, .func (.func f1) #[] cs, .func (.func f2) #[] cs] w (StP w n (stN s n)) := by
  have HF1 := Lib.hid hf1
  have HF2 := Lib.hid hf2
  have HSS := Lib.hid hs
  have HL := Lib.hid hl
  have HR := Lib.hid hr
  have HO0 := Lib.hid (Ow.built eBo 1 w 4)
  have HB0 : Hid (Below w.heap.size w (w.alloc (.cells #[] 4))) := Lib.hid (below_built w 4)
  have HS0 := Lib.hid hs0
  obtain ⟨BB, hB⟩ : ∃ BB, w.heap.size = BB := ⟨_, rfl⟩
  have hBB : BB ≤ w.heap.size := by omega
  have hBB' : w.heap.size ≤ BB := by omega
  have HPO : Hid (∀ (a' : Option Addr) (c' : Nat) (w' : World), Ow eBo 1 w' BB 4 (.slice a' n c') n (stN s n) → Below w.heap.size w w' → StP w n (stN s n) (.returned (.slice a' n c')) w') := Lib.hid fun a' c' w' h1 h2 => ⟨a', c', rfl, by rw [hB]; exact h1, h2⟩
  have HO1 : Hid (Ow eBo 1 (w.alloc (.cells #[] 4)) BB 4 (.slice (some ⟨w.heap.size, 0, none⟩) 0 0) 0 (stN s 0)) := Lib.hid (by rw [← hB]; exact HO0.out)
  clear hf1 hf2 hs hl hr hs0 HO0 hB
  go_enter Try.func91, Try.ntmps91
  go_wp2_with fail
  go_loopw [7, 8, 14] (fun out on i wr => ∃ (k : Nat) (a' : Option Addr) (c' : Nat), k ≤ n ∧ i = .int .i64 k ∧ out = .slice a' k c' ∧ on = .bool (s k) ∧ Hid (Ow eBo 1 wr BB 4 (.slice a' k c') k (stN s k)) ∧ Hid (Below w.heap.size w wr)) (fun _ _ i _ => n - (intOf i).toNat)
  case atStart => exact ⟨0, _, _, Nat.zero_le _, rfl, rfl, by rw [HS0.out], HO1, HB0⟩
  case round =>
    obtain ⟨k, a', c', hk, rfl, rfl, rfl, HO, HB⟩ := hrel
    by_cases hlt : k < n
    · obtain ⟨p, hp⟩ : ∃ z, ps[k]? = some z := ⟨_, List.getElem?_eq_getElem (by rw [HL.out]; exact hlt)⟩
      have hs := HSS.out k p hp
      obtain ⟨b1, o1, hab1, hbl1, hc1'⟩ := (HR.out.below HB.out) k p hp
      have y0 := hc1' 0 _ rfl
      have y1 := hc1' 1 _ rfl
      rw [Nat.add_zero] at y0
      subst hab1
      have HCN := Lib.hid (CAt.new wr #[.int .i64 p.time, .int .i64 p.mag] 49)
      have HBN := Lib.hid ((Below.refl wr.heap.size wr).alloc (Nat.le_refl _) (.cells #[.int .i64 p.time, .int .i64 p.mag] 49))
      have HOA := Lib.hid (HO.out.below HBN.out)
      have HBA := Lib.hid (HB.out.trans (HBN.out.mono HB.out.size))
      obtain ⟨wA, hwA⟩ : ∃ wA, wr.alloc (.cells #[.int .i64 p.time, .int .i64 p.mag] 49) = wA := ⟨_, rfl⟩
      obtain ⟨gx, hgx⟩ : ∃ gx, wr.heap.size = gx := ⟨_, rfl⟩
      rw [hwA] at HCN HOA HBA
      rw [hgx] at HCN
      have HWA := Lib.hid hwA
      have HGX := Lib.hid hgx
      clear hp hc1' HBN hwA hgx
      go_upto_region 5 with (fail)
      rw [HWA.out, HGX.out]
      clear HWA HGX y0 y1
      have c0 : wA.cell? ⟨gx, 0, none⟩ = some (.int .i64 p.time) := HCN.out.cell 0
      have c1 : wA.cell? ⟨gx, 1, none⟩ = some (.int .i64 p.mag) := HCN.out.cell 1
      cases hon : s k with
      | true =>
        have HON := Lib.hid hon
        clear hon
        have HS : Hid (s (k + 1) = S p.mag) := Lib.hid (by rw [hs, HON.out]; simp)
        have HON' := HON
        clear hs
        go_wp2_with fail
        refine (HF2.out p.mag _ HBA.out).mono ?_
        rintro e w4 ⟨rfl, hb4⟩
        have HO4 := Lib.hid (HOA.out.below hb4)
        have HB4 := Lib.hid (HBA.out.trans (hb4.mono HBA.out.size))
        have hsz4 : BB ≤ w4.heap.size := Nat.le_trans hBB HB4.out.size
        obtain ⟨V, hV⟩ : ∃ V, S p.mag = V := ⟨_, rfl⟩
        rw [hV] at HS
        rw [show (!(S p.mag)) = !V by rw [hV]]
        clear hb4 c0 c1 hV
        have h63 : k + 1 ≤ maxLen := by unfold maxLen; omega
        have hby : (k + 1) * 1 ≤ 140737488355328 := by omega
        obtain ⟨ys, hys⟩ : ∃ ys, stN s k ++ [V] = ys := ⟨_, rfl⟩
        have HYS := Lib.hid hys
        clear hys
        go_wp2_with (at_builtin; refine wpl_app eBo_len (by decide) _ rfl (.tmp 28) (.tmp 30) 64 rfl 4 _ 1 rfl Try.underlying64 infoBo BB _ k _ rfl w4 _ _ rfl HO4.out (V) rfl rfl (eBo_one _) h63 hby hsz4 ys HYS ?_)
        intro a9 c9 w9 ho9 hb9 hs9
        have HO9 := Lib.hid ho9
        have HB9 := Lib.hid (HB4.out.trans (hb9.mono hBB'))
        clear ho9 hb9 h63 hby
        have HOZ : Hid (Ow eBo 1 w9 BB 4 (.slice a9 (k + 1) c9) (k + 1) (stN s (k + 1))) := Lib.hid (by rw [stN_succ, HS.out, HYS.out]; exact HO9.out)
        go_wp2_with fail
        go_roundw
        case rel => exact ⟨k + 1, a9, c9, by omega, by go_num, rfl, by rw [HS.out], HOZ, HB9⟩
        case measure => simp [intOf]; omega
      | false =>
        have HON := Lib.hid hon
        clear hon
        have HS : Hid (s (k + 1) = B p.mag) := Lib.hid (by rw [hs, HON.out]; simp)
        have HON' := HON
        clear hs
        go_wp2_with fail
        refine (HF1.out p.mag _ HBA.out).mono ?_
        rintro e w4 ⟨rfl, hb4⟩
        have HO4 := Lib.hid (HOA.out.below hb4)
        have HB4 := Lib.hid (HBA.out.trans (hb4.mono HBA.out.size))
        have hsz4 : BB ≤ w4.heap.size := Nat.le_trans hBB HB4.out.size
        obtain ⟨V, hV⟩ : ∃ V, B p.mag = V := ⟨_, rfl⟩
        rw [hV] at HS
        rw [hV]
        clear hb4 c0 c1 hV
        have h63 : k + 1 ≤ maxLen := by unfold maxLen; omega
        have hby : (k + 1) * 1 ≤ 140737488355328 := by omega
        obtain ⟨ys, hys⟩ : ∃ ys, stN s k ++ [V] = ys := ⟨_, rfl⟩
        have HYS := Lib.hid hys
        clear hys
        go_wp2_with (at_builtin; refine wpl_app eBo_len (by decide) _ rfl (.tmp 28) (.tmp 30) 64 rfl 4 _ 1 rfl Try.underlying64 infoBo BB _ k _ rfl w4 _ _ rfl HO4.out (V) rfl rfl (eBo_one _) h63 hby hsz4 ys HYS ?_)
        intro a9 c9 w9 ho9 hb9 hs9
        have HO9 := Lib.hid ho9
        have HB9 := Lib.hid (HB4.out.trans (hb9.mono hBB'))
        clear ho9 hb9 h63 hby
        have HOZ : Hid (Ow eBo 1 w9 BB 4 (.slice a9 (k + 1) c9) (k + 1) (stN s (k + 1))) := Lib.hid (by rw [stN_succ, HS.out, HYS.out]; exact HO9.out)
        go_wp2_with fail
        go_roundw
        case rel => exact ⟨k + 1, a9, c9, by omega, by go_num, rfl, by rw [HS.out], HOZ, HB9⟩
        case measure => simp [intOf]; omega
    · obtain rfl : k = n := by omega
      go_wp2_with fail
      go_ret
      exact HPO.out _ _ _ HO.out HB.out
end Go.Proofs.Ytlgjdfagmeehcaa
