/-
  The first element that is wanted, and all of them, for any wanted function.
-/
import Derived.Test.YtcggnjpbahobcaaGreatDoorFirst
namespace Go.Proofs.YtcggnjpbahobcaaGreatDoor
open Go.RowKit
set_option maxRecDepth 100000

theorem choInfo42 : (Tryz.prog.info? 42).map (fun i => (i.zero, i.size, i.bytes)) = some (some (.agg #[.int .i64 0, .string ByteArray.empty, .string ByteArray.empty, .int .i64 0, .bool false]), 5, 56) := by kernel_rfl
set_option maxHeartbeats 2000000 in
theorem chosenEst_any (vs : List Est) (q : Est → Bool) (f : FuncId) (cs : Array Value) (a : Option Addr) (n c : Nat) (w : World) (hn : n ≤ 1048576) (hl : vs.length = n) (hr : Rd Est.enc 5 w a vs)
    (hcf : ∀ (args : Array Value) (wx : World), (callFunc f args).run Tryz.prog wx = .ok (.enter f args) wx)
    (hf : ∀ (i : Nat) (x : Est) (w' : World), vs[i]? = some x → Below w.heap.size w w' → Calls Tryz.prog f (#[.agg #[.int .i64 x.time, .string x.star, .string x.obs, .int .i64 x.mag, .bool x.fnt]] ++ cs) w' fun e w'' => e = .returned (.bool (q x)) ∧ Below w'.heap.size w' w'') :
    Calls Tryz.prog 35 #[.slice a n c, .func (.func f) #[] cs] w fun e w' => ∃ a' n' c', e = .returned (.slice a' n' c') ∧ n' ≤ n ∧ Ow Est.enc 5 w' w.heap.size 42 (.slice a' n' c') n' (vs.filter q) ∧ Below w.heap.size w w' := by
  have HL := Lib.hid hl
  have HF := Lib.hid hf
  clear hl hf
  go_enter Tryz.func35, Tryz.ntmps35
  go_wp2_with fail
  go_loopw [5, 11] (fun o i wr => ∃ k m : Nat, ∃ a' c', k ≤ n ∧ m ≤ k ∧ i = .int .i64 k ∧ o = .slice a' m c' ∧ Ow Est.enc 5 wr w.heap.size 42 (.slice a' m c') m ((vs.take k).filter q) ∧ Below w.heap.size w wr) (fun _ i _ => n - (intOf i).toNat)
  case atStart => exact ⟨0, 0, _, _, Nat.zero_le _, Nat.le_refl _, rfl, rfl, Ow.built _ _ _ _, below_built _ _⟩
  case round =>
    obtain ⟨k, m, a', c', hk, hm, rfl, rfl, hown, hb⟩ := hrel
    by_cases hlt : k < n
    · obtain ⟨x, hx, htk⟩ := take_snoc' vs k (by rw [HL.out]; omega)
      obtain ⟨b, o, rfl, hbl, hc⟩ := (hr.below hb) k x hx
      have c0 := hc 0 _ rfl
      rw [Nat.add_zero] at c0
      have c1 := hc 1 _ rfl
      have c2 := hc 2 _ rfl
      have c3 := hc 3 _ rfl
      have c4 := hc 4 _ rfl
      have HX := Lib.hid hx
      have hn0 : (wr.alloc (.cells #[.int .i64 x.time, .string x.star, .string x.obs, .int .i64 x.mag, .bool x.fnt] 42)).cell? ⟨wr.heap.size, 0, none⟩ = some (.int .i64 x.time) := (cell_of_row (wr.alloc (.cells #[.int .i64 x.time, .string x.star, .string x.obs, .int .i64 x.mag, .bool x.fnt] 42)) wr.heap.size 0 _ 42 (0, 0) (heap_alloc_new wr _)).trans rfl
      have hn1 : (wr.alloc (.cells #[.int .i64 x.time, .string x.star, .string x.obs, .int .i64 x.mag, .bool x.fnt] 42)).cell? ⟨wr.heap.size, 1, none⟩ = some (.string x.star) := (cell_of_row (wr.alloc (.cells #[.int .i64 x.time, .string x.star, .string x.obs, .int .i64 x.mag, .bool x.fnt] 42)) wr.heap.size 1 _ 42 (0, 0) (heap_alloc_new wr _)).trans rfl
      have hn2 : (wr.alloc (.cells #[.int .i64 x.time, .string x.star, .string x.obs, .int .i64 x.mag, .bool x.fnt] 42)).cell? ⟨wr.heap.size, 2, none⟩ = some (.string x.obs) := (cell_of_row (wr.alloc (.cells #[.int .i64 x.time, .string x.star, .string x.obs, .int .i64 x.mag, .bool x.fnt] 42)) wr.heap.size 2 _ 42 (0, 0) (heap_alloc_new wr _)).trans rfl
      have hn3 : (wr.alloc (.cells #[.int .i64 x.time, .string x.star, .string x.obs, .int .i64 x.mag, .bool x.fnt] 42)).cell? ⟨wr.heap.size, 3, none⟩ = some (.int .i64 x.mag) := (cell_of_row (wr.alloc (.cells #[.int .i64 x.time, .string x.star, .string x.obs, .int .i64 x.mag, .bool x.fnt] 42)) wr.heap.size 3 _ 42 (0, 0) (heap_alloc_new wr _)).trans rfl
      have hn4 : (wr.alloc (.cells #[.int .i64 x.time, .string x.star, .string x.obs, .int .i64 x.mag, .bool x.fnt] 42)).cell? ⟨wr.heap.size, 4, none⟩ = some (.bool x.fnt) := (cell_of_row (wr.alloc (.cells #[.int .i64 x.time, .string x.star, .string x.obs, .int .i64 x.mag, .bool x.fnt] 42)) wr.heap.size 4 _ 42 (0, 0) (heap_alloc_new wr _)).trans rfl
      have hba : Below wr.heap.size wr (wr.alloc (.cells #[.int .i64 x.time, .string x.star, .string x.obs, .int .i64 x.mag, .bool x.fnt] 42)) := (Below.refl _ _).alloc (Nat.le_refl _) _
      have HS : Hid (wr.heap.size < (wr.alloc (.cells #[.int .i64 x.time, .string x.star, .string x.obs, .int .i64 x.mag, .bool x.fnt] 42)).heap.size) := Lib.hid (by simp)
      have hown0 := hown.below hba
      have hbB := Lib.hid (hb.trans (hba.mono hb.size))
      clear hc hx hr hown hb hba
      cases hp : q x with
      | true =>
        have HY : Hid ((vs.take k).filter q ++ [x] = (vs.take (k + 1)).filter q) := Lib.hid (filter_snoc_yes htk hp)
        have HP := Lib.hid hp
        clear hp htk
        go_wp2_with fail
        refine (HF.out k x _ HX.out hbB.out).mono ?_
        rintro e w1 ⟨rfl, hb1⟩
        rw [HP.out]
        have hown1 := hown0.below hb1
        have hb2 := hbB.out.trans (hb1.mono hbB.out.size)
        have hm0 := (hb1.cell (p := ⟨wr.heap.size, 0, none⟩) HS.out).trans hn0
        have hm1 := (hb1.cell (p := ⟨wr.heap.size, 1, none⟩) HS.out).trans hn1
        have hm2 := (hb1.cell (p := ⟨wr.heap.size, 2, none⟩) HS.out).trans hn2
        have hm3 := (hb1.cell (p := ⟨wr.heap.size, 3, none⟩) HS.out).trans hn3
        have hm4 := (hb1.cell (p := ⟨wr.heap.size, 4, none⟩) HS.out).trans hn4
        have h63 : m + 1 ≤ maxLen := by unfold maxLen; omega
        have hby : (m + 1) * 56 ≤ 140737488355328 := by omega
        clear hb1 hown0
        go_wp2_with (at_builtin; refine wpl_app Est.len (by decide) _ rfl (.tmp 18) (.tmp 20) 27 rfl 42 (.agg #[.int .i64 0, .string ByteArray.empty, .string ByteArray.empty, .int .i64 0, .bool false]) 56 rfl Tryz.underlying27 choInfo42 w.heap.size _ m _ rfl w1 _ 42 rfl hown1 x rfl rfl (Est.one _) h63 hby hb2.size _ HY ?_)
        intro a2 c2 w2 hown2 hb3 _
        have hb4 := hb2.trans hb3
        go_wp2_with fail
        go_roundw
        case rel => exact ⟨k + 1, m + 1, a2, c2, by omega, by omega, by go_num, by simp, hown2, hb4⟩
        case measure => simp [intOf]; omega
      | false =>
        have HY := Lib.hid (filter_snoc_no htk hp)
        have HP := Lib.hid hp
        clear hp htk
        go_wp2_with fail
        refine (HF.out k x _ HX.out hbB.out).mono ?_
        rintro e w1 ⟨rfl, hb1⟩
        rw [HP.out]
        have hown1 := hown0.below hb1
        have hb2 := hbB.out.trans (hb1.mono hbB.out.size)
        rw [HY.out] at hown1
        clear hb1 hown0
        go_wp2_with fail
        go_roundw
        case rel => exact ⟨k + 1, m, a', c', by omega, by omega, by go_num, rfl, hown1, hb2⟩
        case measure => simp [intOf]; omega
    · obtain rfl : k = n := by omega
      rw [List.take_of_length_le (by rw [HL.out]; omega)] at hown
      go_wp2_with fail
      go_ret
      exact ⟨_, _, _, rfl, hm, hown, hb⟩
set_option maxHeartbeats 2000000 in
theorem IndexFuncInt_any (vs : List Int) (q : Int → Bool) (f : FuncId) (cs : Array Value) (a : Option Addr) (n c : Nat) (w : World) (hn : n ≤ 1048576) (hl : vs.length = n) (hr : Rd eI 1 w a vs)
    (hcf : ∀ (args : Array Value) (wx : World), (callFunc f args).run Tryz.prog wx = .ok (.enter f args) wx)
    (hf : ∀ (i : Nat) (x : Int) (w' : World), vs[i]? = some x → Below w.heap.size w w' → Calls Tryz.prog f (#[.int .i64 x] ++ cs) w' fun e w'' => e = .returned (.bool (q x)) ∧ Below w'.heap.size w' w'') :
    Calls Tryz.prog 101 #[.slice a n c, .func (.func f) #[] cs] w fun e w' => e = .returned (.int .i64 (findZ (firstI n (atP vs q)))) ∧ Below w.heap.size w w' := by
  have HL := Lib.hid hl
  have HF := Lib.hid hf
  clear hl hf
  go_enter Tryz.func101, Tryz.ntmps101
  go_wp2_with fail
  go_loopw [8] (fun i wr => ∃ k : Nat, k ≤ n ∧ i = .int .i64 k ∧ Hid (∀ j, j < k → atP vs q j = false) ∧ Below w.heap.size w wr) (fun i _ => n - (intOf i).toNat)
  case atStart => exact ⟨0, Nat.zero_le _, rfl, fun j hj => absurd hj (by omega), Below.refl _ _⟩
  case round =>
    obtain ⟨k, hk, rfl, HK, hb⟩ := hrel
    by_cases hlt : k < n
    · obtain ⟨x, hx, htk⟩ := take_snoc' vs k (by rw [HL.out]; omega)
      obtain ⟨b, o, rfl, hbl, hc⟩ := (hr.below hb) k x hx
      have c0 := hc 0 _ rfl
      rw [Nat.add_zero] at c0
      rw [Nat.mul_one] at c0
      have HX := Lib.hid hx
      have HP : Hid (atP vs q k = q x) := Lib.hid (atP_eq hx)
      clear hc htk hx hr
      cases hp : q x with
      | true =>
        have HQ := Lib.hid (firstI_some HK.out hlt (HP.out.trans hp))
        have HP := Lib.hid hp
        clear hp HK
        go_wp2_with fail
        refine (HF.out k x _ HX.out hb).mono ?_
        rintro e w1 ⟨rfl, hb1⟩
        rw [HP.out]
        go_wp2_with fail
        go_ret
        exact ⟨by rw [HQ.out]; rfl, hb.trans (hb1.mono hb.size)⟩
      | false =>
        have HQ := Lib.hid (no_step HK.out (HP.out.trans hp))
        have HP := Lib.hid hp
        clear hp HK
        go_wp2_with fail
        refine (HF.out k x _ HX.out hb).mono ?_
        rintro e w1 ⟨rfl, hb1⟩
        rw [HP.out]
        go_wp2_with fail
        go_roundw
        case rel => exact ⟨k + 1, by omega, by go_num, HQ, hb.trans (hb1.mono hb.size)⟩
        case measure => simp [intOf]; omega
    · obtain rfl : k = n := by omega
      have HQ := Lib.hid (firstI_none HK.out)
      clear HK
      go_wp2_with fail
      go_ret
      exact ⟨by rw [HQ.out]; rfl, hb⟩
theorem ContainsInt_any (vs : List Int) (q : Int → Bool) (f : FuncId) (cs : Array Value) (a : Option Addr) (n c : Nat) (w : World) (hn : n ≤ 1048576) (hl : vs.length = n) (hr : Rd eI 1 w a vs)
    (hcf : ∀ (args : Array Value) (wx : World), (callFunc f args).run Tryz.prog wx = .ok (.enter f args) wx)
    (hf : ∀ (i : Nat) (x : Int) (w' : World), vs[i]? = some x → Below w.heap.size w w' → Calls Tryz.prog f (#[.int .i64 x] ++ cs) w' fun e w'' => e = .returned (.bool (q x)) ∧ Below w'.heap.size w' w'') :
    Calls Tryz.prog 94 #[.slice a n c, .func (.func f) #[] cs] w fun e w' => e = .returned (.bool (vs.any q)) ∧ Below w.heap.size w w' := by
  have HV := Lib.hid (firstI_any vs q)
  have HF := Lib.hid hf
  have HL := Lib.hid hl
  clear hf hl
  cases hq : firstI n (atP vs q) with
  | none =>
    have HR : Hid (vs.any q = false) := Lib.hid (by rw [← HV.out, HL.out, hq]; rfl)
    have HQ := Lib.hid hq
    clear hq HV
    go_enter Tryz.func94, Tryz.ntmps94
    go_wp2_with fail
    refine (IndexFuncInt_any vs q f cs a n c _ hn HL.out hr hcf HF.out).mono ?_
    rintro e w1 ⟨rfl, hb⟩
    rw [HQ.out, findZ]
    go_wp2_with fail
    go_ret
    exact ⟨by rw [HR.out]; rfl, hb⟩
  | some i =>
    have HR : Hid (vs.any q = true) := Lib.hid (by rw [← HV.out, HL.out, hq]; rfl)
    have HQ := Lib.hid hq
    clear hq HV
    have d0 : decide ((0 : Int) ≤ (i : Int)) = true := by simp
    go_enter Tryz.func94, Tryz.ntmps94
    go_wp2_with fail
    refine (IndexFuncInt_any vs q f cs a n c _ hn HL.out hr hcf HF.out).mono ?_
    rintro e w1 ⟨rfl, hb⟩
    rw [HQ.out, findZ]
    go_wp2_with fail
    go_ret
    exact ⟨by rw [HR.out]; first | rfl | simp, hb⟩
end Go.Proofs.YtcggnjpbahobcaaGreatDoor
