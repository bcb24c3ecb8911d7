/-
  Grids: their models, and the best one.
-/
import Derived.Test.YtlgjdfagmeehcaaGridD
import Derived.Test.YtlgjdfagmeehcaaMf1
import Derived.Deep.DeepCutAuto
namespace Go.Proofs.Ytlgjdfagmeehcaa
open Go.RowKit
set_option maxRecDepth 100000
set_option maxHeartbeats 4000000 in
theorem isGrid_yes (m : Mod) (Ds Hs Fs : List Int) (g1 g2 g3 : Option Addr) (n1 n2 n3 c1 c2 c3 : Nat) (w : World) (hg : GridOk m Ds Hs Fs) (l1 : Ds.length = n1) (l2 : Hs.length = n2) (l3 : Fs.length = n3) (r1 : Rd eI 1 w g1 Ds) (r2 : Rd eI 1 w g2 Hs) (r3 : Rd eI 1 w g3 Fs) : Calls Try.prog 78 #[.agg #[.slice g1 n1 c1, .slice g2 n2 c2, .slice g3 n3 c3]] w fun e w' => e = .returned (.bool true) ∧ Below w.heap.size w w' := by
  have HGD := Lib.hid hg
  have HL1 := Lib.hid l1
  have HL2 := Lib.hid l2
  have HL3 := Lib.hid l3
  have HR1 := Lib.hid r1
  have HR2 := Lib.hid r2
  have HR3 := Lib.hid r3
  have a1 : n1 ≤ 3 := l1 ▸ hg.ld
  have a2 : n2 ≤ 3 := l2 ▸ hg.lh
  have a3 : n3 ≤ 3 := l3 ▸ hg.lf
  have b1 : 1 ≤ n1 := by rw [← l1]; exact List.length_pos_of_mem hg.md
  have b2 : 1 ≤ n2 := by rw [← l2]; exact List.length_pos_of_mem hg.mh
  have b3 : 1 ≤ n3 := by rw [← l3]; exact List.length_pos_of_mem hg.mf
  clear hg l1 l2 l3 r1 r2 r3
  have p1 : (n1 : Int) * n2 ≤ 9 := by have := Int.mul_le_mul (show (n1 : Int) ≤ 3 by omega) (show (n2 : Int) ≤ 3 by omega) (by omega) (by omega); omega
  have p0 : 0 ≤ (n1 : Int) * n2 := Int.mul_nonneg (by omega) (by omega)
  have p2 : (n1 : Int) * n2 * n3 ≤ 27 := by have := Int.mul_le_mul p1 (show (n3 : Int) ≤ 3 by omega) (by omega) (by omega); omega
  have p3 : 0 ≤ (n1 : Int) * n2 * n3 := Int.mul_nonneg p0 (by omega)
  have i1 : IntKind.i64.wrap ((n1 : Int) * n2) = (n1 : Int) * n2 := IntWalk.i64_in _ (by omega)
  have i2 : IntKind.i64.wrap ((n1 : Int) * n2 * n3) = (n1 : Int) * n2 * n3 := IntWalk.i64_in _ (by omega)
  have d1 : decide ((1 : Int) ≤ n1) = true := by simp; omega
  have d2 : decide ((1 : Int) ≤ n2) = true := by simp; omega
  have d3 : decide ((1 : Int) ≤ n3) = true := by simp; omega
  have d4 : decide ((n1 : Int) ≤ 300) = true := by simp; omega
  have d5 : decide ((n2 : Int) ≤ 300) = true := by simp; omega
  have d6 : decide ((n3 : Int) ≤ 300) = true := by simp; omega
  have d7 : decide ((n1 : Int) * n2 * n3 ≤ 300) = true := by simp; omega
  obtain ⟨hx0, hxb, hxs⟩ := bx1 w #[.slice g1 n1 c1, .slice g2 n2 c2, .slice g3 n3 c3] 42
  obtain ⟨wE, hwE⟩ : ∃ wE, (w.alloc (.cells #[.slice g1 n1 c1, .slice g2 n2 c2, .slice g3 n3 c3] 42)) = wE := ⟨_, rfl⟩
  rw [hwE] at hx0 hxb hxs
  have HX0 := Lib.hid hx0
  have HXB := Lib.hid hxb
  have HXS := Lib.hid hxs
  have HWE := Lib.hid hwE
  clear hx0 hxb hxs hwE
  go_enter Try.func78, Try.ntmps78
  go_upto_region 1 with (fail)
  rw [HWE.out]
  clear HWE
  have hq0 := HX0.out.below (Below.refl wE.heap.size wE)
  have c00 : wE.cell? ⟨w.heap.size, 0, none⟩ = some (.slice g1 n1 c1) := hq0.cell 0
  have c01 : wE.cell? ⟨w.heap.size, 1, none⟩ = some (.slice g2 n2 c2) := hq0.cell 1
  have c02 : wE.cell? ⟨w.heap.size, 2, none⟩ = some (.slice g3 n3 c3) := hq0.cell 2
  clear hq0
  go_wp2_with fail
  go_quiet (fail)
  have HB1 : Hid (Below wE.heap.size wE (wE.drewN nq)) := Lib.hid (below_drewN (Below.refl wE.heap.size wE) nq)
  obtain ⟨w1, hw1⟩ : ∃ wq, wE.drewN nq = wq := ⟨_, rfl⟩
  rw [hw1] at HB1 ⊢
  clear hw1
  clear c00 c01 c02
  have hq0 := HX0.out.below HB1.out
  have c00 : w1.cell? ⟨w.heap.size, 0, none⟩ = some (.slice g1 n1 c1) := hq0.cell 0
  have c01 : w1.cell? ⟨w.heap.size, 1, none⟩ = some (.slice g2 n2 c2) := hq0.cell 1
  have c02 : w1.cell? ⟨w.heap.size, 2, none⟩ = some (.slice g3 n3 c3) := hq0.cell 2
  clear hq0
  go_wp2_with fail
  go_ret
  exact ⟨rfl, (HXB.out.trans (HB1.out.mono HXB.out.size))⟩
set_option maxHeartbeats 4000000 in
theorem ValidModel_no (m : Mod) (w : World) (h1 : 1 ≤ m.depth) (h2 : m.depth ≤ 5000) (h3 : 0 ≤ m.flat) (h4 : m.half ≤ m.flat) : Calls Try.prog 59 #[.agg #[.int .i64 m.depth, .int .i64 m.half, .int .i64 m.flat]] w fun e w' => e = .returned (.bool false) ∧ Below w.heap.size w w' := by
  have H1 : Hid (inB m.depth 1 5000 = true) := Lib.hid (inB_true h1 h2)
  have d1 : decide (0 ≤ m.flat) = true := by simpa using h3
  have d2 : decide (m.flat < m.half) = false := by simp; omega
  obtain ⟨hx0, hxb, hxs⟩ := bx1 w #[.int .i64 m.depth, .int .i64 m.half, .int .i64 m.flat] 25
  obtain ⟨wE, hwE⟩ : ∃ wE, (w.alloc (.cells #[.int .i64 m.depth, .int .i64 m.half, .int .i64 m.flat] 25)) = wE := ⟨_, rfl⟩
  rw [hwE] at hx0 hxb hxs
  have HX0 := Lib.hid hx0
  have HXB := Lib.hid hxb
  have HXS := Lib.hid hxs
  have HWE := Lib.hid hwE
  clear hx0 hxb hxs hwE
  go_enter Try.func59, Try.ntmps59
  go_upto_region 1 with (fail)
  rw [HWE.out]
  clear HWE
  have hq0 := HX0.out.below (Below.refl wE.heap.size wE)
  have c00 : wE.cell? ⟨w.heap.size, 0, none⟩ = some (.int .i64 m.depth) := hq0.cell 0
  have c01 : wE.cell? ⟨w.heap.size, 1, none⟩ = some (.int .i64 m.half) := hq0.cell 1
  have c02 : wE.cell? ⟨w.heap.size, 2, none⟩ = some (.int .i64 m.flat) := hq0.cell 2
  clear hq0
  go_wp2_with fail
  refine (in_lit m.depth _ _ _ _ H1.out).mono ?_
  rintro e wz ⟨rfl, rfl⟩
  go_wp2_with fail
  go_ret
  exact ⟨rfl, HXB.out⟩
theorem filter_snoc {α : Type} (p : α → Bool) (xs : List α) (x : α) : (xs ++ [x]).filter p = if p x = true then xs.filter p ++ [x] else xs.filter p := by
  rw [List.filter_append]
  cases h : p x <;> simp [h]
def ChoPost (w : World) (L : List Mod) (e : Ending) (w' : World) : Prop := ∃ (a' : Option Addr) (k c' : Nat), e = .returned (.slice a' k c') ∧ Ow Mod.enc 3 w' w.heap.size 25 (.slice a' k c') k L ∧ Below w.heap.size w w'
set_option maxHeartbeats 4000000 in
theorem chosenM (xs : List Mod) (a : Option Addr) (n c : Nat) (w : World) (hn : n ≤ 1000) (hl : xs.length = n) (hr : Rd Mod.enc 3 w a xs) (hp : ∀ x ∈ xs, 100 ≤ x.depth ∧ x.depth ≤ 2000 ∧ 50 ≤ x.half ∧ x.half ≤ 1000 ∧ 0 ≤ x.flat) : Calls Try.prog 132 #[.slice a n c, .func (.func 59) #[] #[]] w (ChoPost w (xs.filter okM)) := by
  have HL := Lib.hid hl
  have HR := Lib.hid hr
  have HP := Lib.hid hp
  have hb9 : Below w.heap.size w (w.alloc (.cells #[] 25)) := below_built w 25
  have HO3 := Lib.hid (Ow.built Mod.enc 3 w 25)
  have HB3 := Lib.hid hb9
  have hw3 : w.heap.size ≤ (w.alloc (.cells #[] 25)).heap.size := hb9.size
  clear hl hr hp hb9
  go_enter Try.func132, Try.ntmps132
  go_wp2_with fail
  obtain ⟨w3, hw3e⟩ : ∃ w3, w.alloc (.cells #[] 25) = w3 := ⟨_, rfl⟩
  obtain ⟨B2, hB2⟩ : ∃ B2, w.heap.size = B2 := ⟨_, rfl⟩
  have HPO : Hid (∀ (a' : Option Addr) (k c' : Nat) (w' : World), Ow Mod.enc 3 w' B2 25 (.slice a' k c') k (xs.filter okM) → Below B2 w w' → ChoPost w (xs.filter okM) (.returned (.slice a' k c')) w') := Lib.hid fun a' k c' w' h1 h2 => by rw [← hB2] at h1 h2; exact ⟨a', k, c', rfl, h1, h2⟩
  rw [hB2] at HO3 hw3 HB3 ⊢
  rw [hw3e] at HO3 hw3 HB3 ⊢
  have HB2 := Lib.hid hB2
  clear hw3e hB2
  go_loopw [5, 11] (fun l i wr => ∃ (k N : Nat) (a' : Option Addr) (c' : Nat), k ≤ n ∧ i = .int .i64 k ∧ l = .slice a' N c' ∧ Hid (Ow Mod.enc 3 wr B2 25 (.slice a' N c') N ((xs.take k).filter okM)) ∧ N ≤ k ∧ Below B2 w3 wr ∧ B2 ≤ wr.heap.size) (fun _ i _ => n - (intOf i).toNat)
  case atStart => exact ⟨0, 0, _, _, Nat.zero_le _, rfl, rfl, HO3, Nat.le_refl _, Below.refl _ _, hw3⟩
  case round =>
    obtain ⟨k, N, a', c', hk, rfl, rfl, HO, hN, hb, hbw⟩ := hrel
    have HBr := Lib.hid (HB3.out.trans hb)
    by_cases hlt : k < n
    · obtain ⟨x, hx, htk⟩ := take_snoc' xs k (by rw [HL.out]; exact hlt)
      have HS := Lib.hid (filter_snoc okM (xs.take k) x)
      rw [← htk] at HS
      have hpx := HP.out x (List.mem_of_getElem? hx)
      obtain ⟨b, oo, hab, hbl, hc⟩ := ((HR.out.below (by rw [HB2.out]; exact HBr.out)) k x hx)
      have y0 := hc 0 _ rfl
      have y1 := hc 1 _ rfl
      have y2 := hc 2 _ rfl
      rw [Nat.add_zero] at y0
      subst hab
      have hbn : Below wr.heap.size wr (wr.alloc (.cells #[.int .i64 x.depth, .int .i64 x.half, .int .i64 x.flat] 25)) := (Below.refl _ _).alloc (Nat.le_refl _) _
      have HCN := Lib.hid (CAt.new wr #[.int .i64 x.depth, .int .i64 x.half, .int .i64 x.flat] 25)
      have HON := Lib.hid (HO.out.below hbn)
      have HB4 := Lib.hid (hb.trans (hbn.mono hbw))
      have hbw4 : B2 ≤ (wr.alloc (.cells #[.int .i64 x.depth, .int .i64 x.half, .int .i64 x.flat] 25)).heap.size := by simp; omega
      have hlo : ∀ q, (Value.slice a' N c').ownBlock = some q → q < wr.heap.size := fun q hq => (HO.out.lt q hq).2
      have HLO := Lib.hid hlo
      clear hc htk hx hb hbn hlo
      go_upto_region 5 with (fail)
      obtain ⟨w4, hw4⟩ : ∃ w4, wr.alloc (.cells #[.int .i64 x.depth, .int .i64 x.half, .int .i64 x.flat] 25) = w4 := ⟨_, rfl⟩
      obtain ⟨gx, hgx⟩ : ∃ gx, wr.heap.size = gx := ⟨_, rfl⟩
      rw [hw4] at HON HB4 HCN hbw4 ⊢
      rw [hgx] at HCN HLO ⊢
      clear hw4 y0 y1 y2 hgx
      have z0 : w4.cell? ⟨gx, 0, none⟩ = some (.int .i64 x.depth) := HCN.out.cell 0
      have z1 : w4.cell? ⟨gx, 1, none⟩ = some (.int .i64 x.half) := HCN.out.cell 1
      have z2 : w4.cell? ⟨gx, 2, none⟩ = some (.int .i64 x.flat) := HCN.out.cell 2
      by_cases hok : okM x = true
      · have HF : Hid ((xs.take (k + 1)).filter okM = (xs.take k).filter okM ++ [x]) := Lib.hid (by rw [HS.out, if_pos hok])
        have hmo : ModOk x := ⟨hpx.1, hpx.2.1, hpx.2.2.1, hpx.2.2.2.1, hpx.2.2.2.2, by unfold okM at hok; simpa using hok⟩
        have HMO := Lib.hid hmo
        clear hok hmo
        go_wp2_with fail
        refine (ValidModel_any x _ HMO.out).mono ?_
        rintro e w5 ⟨rfl, hb5⟩
        have HO5 := Lib.hid (HON.out.below hb5)
        have HC5 := Lib.hid (HCN.out.below hb5)
        have HB5 := Lib.hid (HB4.out.trans (hb5.mono hbw4))
        have hbw5 : B2 ≤ w5.heap.size := Nat.le_trans hbw4 hb5.size
        clear hb5 z0 z1 z2
        have z0 : w5.cell? ⟨gx, 0, none⟩ = some (.int .i64 x.depth) := HC5.out.cell 0
        have z1 : w5.cell? ⟨gx, 1, none⟩ = some (.int .i64 x.half) := HC5.out.cell 1
        have z2 : w5.cell? ⟨gx, 2, none⟩ = some (.int .i64 x.flat) := HC5.out.cell 2
        have h63 : N + 1 ≤ maxLen := by unfold maxLen; omega
        have hby : (N + 1) * 24 ≤ 140737488355328 := by omega
        obtain ⟨ys, hys⟩ : ∃ ys, (xs.take k).filter okM ++ [x] = ys := ⟨_, rfl⟩
        have HYS := Lib.hid hys
        clear hys
        go_wp2_with (at_builtin; refine wpl_app Mod.len (by decide) _ rfl (.tmp 18) (.tmp 20) 53 rfl 25 _ 24 rfl Try.underlying53 Try.info25 B2 _ N _ rfl w5 _ _ rfl HO5.out x rfl rfl (Mod.one _) h63 hby hbw5 ys HYS ?_)
        intro a6 c6 w6 ho6 hb6 hs6
        have HO6 : Hid (Ow Mod.enc 3 w6 B2 25 (.slice a6 (N + 1) c6) (N + 1) ((xs.take (k + 1)).filter okM)) := Lib.hid (by rw [HF.out, HYS.out]; exact ho6)
        have HB6 := Lib.hid (HB5.out.trans hb6)
        clear ho6 hb6 z0 z1 z2
        go_wp2_with fail
        go_roundw
        case rel => exact ⟨k + 1, N + 1, a6, c6, by omega, by go_num, rfl, HO6, by omega, HB6.out, by omega⟩
        case measure => simp [intOf]; omega
      · have HF : Hid ((xs.take (k + 1)).filter okM = (xs.take k).filter okM) := Lib.hid (by rw [HS.out, if_neg hok])
        have hge : x.half ≤ x.flat := by unfold okM at hok; simpa using hok
        have CV : Hid (∀ wq, Calls Try.prog 59 #[.agg #[.int .i64 x.depth, .int .i64 x.half, .int .i64 x.flat]] wq fun e w' => e = .returned (.bool false) ∧ Below wq.heap.size wq w') := Lib.hid fun wq => ValidModel_no x wq (by omega) (by omega) hpx.2.2.2.2 hge
        clear hok
        go_wp2_with fail
        refine (CV.out _).mono ?_
        rintro e w5 ⟨rfl, hb5⟩
        have HO5 : Hid (Ow Mod.enc 3 w5 B2 25 (.slice a' N c') N ((xs.take (k + 1)).filter okM)) := Lib.hid (by rw [HF.out]; exact HON.out.below hb5)
        have HB5 := Lib.hid (HB4.out.trans (hb5.mono hbw4))
        have hbw5 : B2 ≤ w5.heap.size := Nat.le_trans hbw4 hb5.size
        clear hb5 z0 z1 z2
        go_wp2_with fail
        go_roundw
        case rel => exact ⟨k + 1, N, a', c', by omega, by go_num, rfl, HO5, by omega, HB5.out, hbw5⟩
        case measure => simp [intOf]; omega
    · obtain rfl : k = n := by omega
      have HF : Hid ((xs.take k).filter okM = xs.filter okM) := Lib.hid (by rw [List.take_of_length_le (by rw [HL.out]; omega)])
      have HOF : Hid (Ow Mod.enc 3 wr B2 25 (.slice a' N c') N (xs.filter okM)) := Lib.hid (by rw [← HF.out]; exact HO.out)
      clear hb
      go_wp2_with fail
      go_ret
      exact HPO.out _ _ _ _ HOF.out HBr.out
def mD (Hs Fs : List Int) (d : Int) : List Mod := Hs.flatMap fun h => Fs.map fun f => ⟨d, h, f⟩
def mH (Fs : List Int) (d h : Int) : List Mod := Fs.map fun f => ⟨d, h, f⟩
theorem allM_eq (Ds Hs Fs : List Int) : allM Ds Hs Fs = Ds.flatMap (mD Hs Fs) := rfl
theorem mD_eq (Hs Fs : List Int) (d : Int) : mD Hs Fs d = Hs.flatMap (mH Fs d) := rfl
theorem fm_snoc {α β : Type} (f : α → List β) (xs : List α) (x : α) : (xs ++ [x]).flatMap f = xs.flatMap f ++ f x := by simp
theorem allM_ok {m : Mod} {Ds Hs Fs : List Int} (hg : GridOk m Ds Hs Fs) : ∀ x ∈ allM Ds Hs Fs, 100 ≤ x.depth ∧ x.depth ≤ 2000 ∧ 50 ≤ x.half ∧ x.half ≤ 1000 ∧ 0 ≤ x.flat := fun x hx => by
  rw [allM_mem] at hx
  have h1 := hg.d _ hx.1
  have h2 := hg.h _ hx.2.1
  have h3 := hg.f _ hx.2.2
  omega
set_option maxHeartbeats 4000000 in
theorem models_any (m : Mod) (Ds Hs Fs : List Int) (g1 g2 g3 : Option Addr) (n1 n2 n3 c1 c2 c3 : Nat) (w : World) (hg : GridOk m Ds Hs Fs) (l1 : Ds.length = n1) (l2 : Hs.length = n2) (l3 : Fs.length = n3) (r1 : Rd eI 1 w g1 Ds) (r2 : Rd eI 1 w g2 Hs) (r3 : Rd eI 1 w g3 Fs) : Calls Try.prog 80 #[.agg #[.slice g1 n1 c1, .slice g2 n2 c2, .slice g3 n3 c3]] w (ChoPost w (msOf Ds Hs Fs)) := by
  have HGD := Lib.hid hg
  have HL1 := Lib.hid l1
  have HL2 := Lib.hid l2
  have HL3 := Lib.hid l3
  have HR1 := Lib.hid r1
  have HR2 := Lib.hid r2
  have HR3 := Lib.hid r3
  have a1 : n1 ≤ 3 := l1 ▸ hg.ld
  have a2 : n2 ≤ 3 := l2 ▸ hg.lh
  have a3 : n3 ≤ 3 := l3 ▸ hg.lf
  have b1 : 1 ≤ n1 := by rw [← l1]; exact List.length_pos_of_mem hg.md
  have b2 : 1 ≤ n2 := by rw [← l2]; exact List.length_pos_of_mem hg.mh
  have b3 : 1 ≤ n3 := by rw [← l3]; exact List.length_pos_of_mem hg.mf
  clear hg l1 l2 l3 r1 r2 r3
  obtain ⟨hx0, hxb, hxs⟩ := bx1 w #[.slice g1 n1 c1, .slice g2 n2 c2, .slice g3 n3 c3] 42
  obtain ⟨wE, hwE⟩ : ∃ wE, (w.alloc (.cells #[.slice g1 n1 c1, .slice g2 n2 c2, .slice g3 n3 c3] 42)) = wE := ⟨_, rfl⟩
  rw [hwE] at hx0 hxb hxs
  have HX0 := Lib.hid hx0
  have HXB := Lib.hid hxb
  have HXS := Lib.hid hxs
  have HWE := Lib.hid hwE
  clear hx0 hxb hxs hwE
  go_enter Try.func80, Try.ntmps80
  go_upto_region 1 with (fail)
  rw [HWE.out]
  clear HWE
  have hb9 : Below wE.heap.size wE (wE.alloc (.cells #[] 25)) := below_built wE 25
  have HO0 := Lib.hid (Ow.built Mod.enc 3 wE 25)
  have HBE := Lib.hid hb9
  have hw0 : wE.heap.size ≤ (wE.alloc (.cells #[] 25)).heap.size := hb9.size
  have q0 : wE.cell? ⟨w.heap.size, 0, none⟩ = some (.slice g1 n1 c1) := HX0.out.cell 0
  have hwl : w.heap.size < wE.heap.size := by have := HXS.out; omega
  obtain ⟨wG, hwG⟩ : ∃ wG, wE.alloc (.cells #[] 25) = wG := ⟨_, rfl⟩
  obtain ⟨B, hB⟩ : ∃ B, wE.heap.size = B := ⟨_, rfl⟩
  have hBE : wE.heap.size ≤ B := by omega
  have hsw : w.heap.size ≤ B := by omega
  have HBB := Lib.hid hB
  have HWG := Lib.hid hwG
  rw [hwG] at HO0 HBE hw0
  rw [hB] at HO0 hw0
  clear hb9 hwG hB
  go_wp2_with fail
  rw [HWG.out, HBB.out]
  clear q0
  go_loopw [3, 14] (fun l ii wr => ∃ (q N : Nat) (a' : Option Addr) (c' : Nat), q ≤ n1 ∧ ii = .int .i64 q ∧ l = .slice a' N c' ∧ Hid (Ow Mod.enc 3 wr B 25 (.slice a' N c') N ([] ++ (Ds.take (q)).flatMap (mD Hs Fs))) ∧ N ≤ 0 + 9 * q ∧ Below B wG wr ∧ B ≤ wr.heap.size) (fun _ ii _ => n1 - (intOf ii).toNat)
  case atStart => exact ⟨0, 0, _, _, Nat.zero_le _, rfl, rfl, HO0, by omega, Below.refl _ _, hw0⟩
  case round =>
    obtain ⟨i, N, a', c', hi, rfl, rfl, HO, hN, hb, hbw⟩ := hrel
    have HBr := Lib.hid (HBE.out.trans (hb.mono hBE))
    by_cases hlt : i < n1
    · obtain ⟨d, hx, htk⟩ := take_snoc' Ds i (by rw [HL1.out]; exact hlt)
      obtain ⟨b, oo, hab, hbl, hc⟩ := ((HR1.out.below HXB.out).below HBr.out) i d hx
      have y0 := hc 0 _ rfl
      rw [Nat.add_zero, Nat.mul_one] at y0
      have HTKD := Lib.hid htk
      obtain ⟨L0, hL0⟩ : ∃ L, [] ++ (Ds.take (i)).flatMap (mD Hs Fs) = L := ⟨_, rfl⟩
      rw [hL0] at HO
      have HLL0 := Lib.hid hL0
      have HX0r := HX0.out.below HBr.out
      have x0 : wr.cell? ⟨w.heap.size, 1, none⟩ = some (.slice g2 n2 c2) := HX0r.cell 1
      obtain ⟨N0, hN0⟩ : ∃ q, q = N := ⟨_, rfl⟩
      subst hN0
      have HO1 := HO
      have HBx1 := Lib.hid hb
      have hbw1 := hbw
      subst hab
      clear hc htk hx hb HX0r HO hL0
      go_wp2_with fail
      clear y0 x0
      go_loopw [3, 21] (fun l ii wr => ∃ (q N : Nat) (a' : Option Addr) (c' : Nat), q ≤ n2 ∧ ii = .int .i64 q ∧ l = .slice a' N c' ∧ Hid (Ow Mod.enc 3 wr B 25 (.slice a' N c') N (L0 ++ (Hs.take (q)).flatMap (mH Fs d))) ∧ N ≤ N0 + 3 * q ∧ Below B wG wr ∧ B ≤ wr.heap.size) (fun _ ii _ => n2 - (intOf ii).toNat)
      case atStart => exact ⟨0, N0, _, _, Nat.zero_le _, rfl, rfl, Lib.hid (by simpa using HO1.out), by omega, HBx1.out, hbw1⟩
      case round =>
        obtain ⟨j, N, a', c', hj, rfl, rfl, HO, hN, hb, hbw⟩ := hrel
        have HBr := Lib.hid (HBE.out.trans (hb.mono hBE))
        by_cases hlt : j < n2
        · obtain ⟨h, hx, htk⟩ := take_snoc' Hs j (by rw [HL2.out]; exact hlt)
          obtain ⟨b, oo, hab, hbl, hc⟩ := ((HR2.out.below HXB.out).below HBr.out) j h hx
          have y0 := hc 0 _ rfl
          rw [Nat.add_zero, Nat.mul_one] at y0
          have HTKH := Lib.hid htk
          obtain ⟨L1, hL1⟩ : ∃ L, L0 ++ (Hs.take (j)).flatMap (mH Fs d) = L := ⟨_, rfl⟩
          rw [hL1] at HO
          have HLL1 := Lib.hid hL1
          have HX1r := HX0.out.below HBr.out
          have x1 : wr.cell? ⟨w.heap.size, 2, none⟩ = some (.slice g3 n3 c3) := HX1r.cell 2
          obtain ⟨N1, hN1⟩ : ∃ q, q = N := ⟨_, rfl⟩
          subst hN1
          have HO2 := HO
          have HBx2 := Lib.hid hb
          have hbw2 := hbw
          subst hab
          clear hc htk hx hb HX1r HO hL1
          go_wp2_with fail
          clear y0 x1
          go_loopw [3, 28] (fun l ii wr => ∃ (q N : Nat) (a' : Option Addr) (c' : Nat), q ≤ n3 ∧ ii = .int .i64 q ∧ l = .slice a' N c' ∧ Hid (Ow Mod.enc 3 wr B 25 (.slice a' N c') N (L1 ++ mH (Fs.take (q)) d h)) ∧ N ≤ N1 + 1 * q ∧ Below B wG wr ∧ B ≤ wr.heap.size) (fun _ ii _ => n3 - (intOf ii).toNat)
          case atStart => exact ⟨0, N1, _, _, Nat.zero_le _, rfl, rfl, Lib.hid (by simpa [mH] using HO2.out), by omega, HBx2.out, hbw2⟩
          case round =>
            obtain ⟨k, N, a', c', hk, rfl, rfl, HO, hN, hb, hbw⟩ := hrel
            have HBr := Lib.hid (HBE.out.trans (hb.mono hBE))
            by_cases hlt : k < n3
            · obtain ⟨f, hx, htk⟩ := take_snoc' Fs k (by rw [HL3.out]; exact hlt)
              obtain ⟨b, oo, hab, hbl, hc⟩ := ((HR3.out.below HXB.out).below HBr.out) k f hx
              have y0 := hc 0 _ rfl
              rw [Nat.add_zero, Nat.mul_one] at y0
              have HTKF := Lib.hid htk
              have h63 : N + 1 ≤ maxLen := by unfold maxLen; omega
              have hby : (N + 1) * 24 ≤ 140737488355328 := by omega
              obtain ⟨ys, hys⟩ : ∃ ys, (L1 ++ mH (Fs.take (k)) d h) ++ [(⟨d, h, f⟩ : Mod)] = ys := ⟨_, rfl⟩
              have HYS := Lib.hid hys
              have HYQ : Hid (ys = L1 ++ mH (Fs.take (k + 1)) d h) := Lib.hid (by rw [← hys, htk]; simp [mH])
              have HB := Lib.hid hb
              subst hab
              clear hc htk hx hb hys
              go_wp2_with (at_builtin; refine wpl_app Mod.len (by decide) _ rfl (.tmp 32) (.tmp 37) 53 rfl 25 _ 24 rfl Try.underlying53 Try.info25 B _ N _ rfl wr _ _ rfl HO.out (⟨d, h, f⟩ : Mod) rfl rfl (Mod.one _) h63 hby hbw ys HYS ?_)
              intro a6 c6 w6 ho6 hb6 hs6
              have HO6 : Hid (Ow Mod.enc 3 w6 B 25 (.slice a6 (N + 1) c6) (N + 1) (L1 ++ mH (Fs.take (k + 1)) d h)) := Lib.hid (by rw [← HYQ.out]; exact ho6)
              have HB6 := Lib.hid (HB.out.trans hb6)
              clear ho6 hb6 y0
              go_wp2_with fail
              go_roundw
              case rel => exact ⟨k + 1, N + 1, a6, c6, by omega, by go_num, rfl, HO6, by omega, HB6.out, by omega⟩
              case measure => simp [intOf]; omega
            · obtain rfl : k = n3 := by omega
              have hall : Fs.take k = Fs := List.take_of_length_le (by rw [HL3.out]; omega)
              rw [hall] at HO
              have HB := Lib.hid hb
              clear hb hall
              have HOU : Hid (Ow Mod.enc 3 wr B 25 (.slice a' N c') N (L0 ++ (Hs.take (j + 1)).flatMap (mH Fs d))) := Lib.hid (by rw [HTKH.out, fm_snoc, ← List.append_assoc, HLL1.out]; exact HO.out)
              go_wp2_with fail
              go_roundw
              case rel => exact ⟨j + 1, N, a', c', by omega, by go_num, rfl, HOU, by omega, HB.out, hbw⟩
              case measure => simp [intOf]; omega
        · obtain rfl : j = n2 := by omega
          have hall : Hs.take j = Hs := List.take_of_length_le (by rw [HL2.out]; omega)
          rw [hall] at HO
          have HB := Lib.hid hb
          clear hb hall
          have HOU : Hid (Ow Mod.enc 3 wr B 25 (.slice a' N c') N ([] ++ (Ds.take (i + 1)).flatMap (mD Hs Fs))) := Lib.hid (by rw [HTKD.out, fm_snoc, mD_eq, ← List.append_assoc, HLL0.out]; exact HO.out)
          go_wp2_with fail
          go_roundw
          case rel => exact ⟨i + 1, N, a', c', by omega, by go_num, rfl, HOU, by omega, HB.out, hbw⟩
          case measure => simp [intOf]; omega
    · obtain rfl : i = n1 := by omega
      have hall : Ds.take i = Ds := List.take_of_length_le (by rw [HL1.out]; omega)
      rw [hall] at HO
      have HB := Lib.hid hb
      clear hb hall
      have HOM : Hid (Ow Mod.enc 3 wr B 25 (.slice a' N c') N (allM Ds Hs Fs)) := Lib.hid (by rw [allM_eq]; simpa using HO.out)
      go_wp2_with fail
      refine (chosenM (allM Ds Hs Fs) a' N c' _ (by omega) (HOM.out.len Mod.len (by decide)) (HOM.out.rd Mod.len (by decide)) (allM_ok HGD.out)).mono ?_
      rintro e w9 ⟨a9, k9, c9, rfl, ho9, hb9⟩
      have HO9 := Lib.hid (ho9.mono (base' := w.heap.size) (by omega))
      have HB9 := Lib.hid (HXB.out.trans ((HBr.out.trans (hb9.mono HBr.out.size)).mono HXB.out.size))
      clear ho9 hb9
      go_wp2_with fail
      go_ret
      exact ⟨a9, k9, c9, rfl, HO9.out, HB9.out⟩
end Go.Proofs.Ytlgjdfagmeehcaa
