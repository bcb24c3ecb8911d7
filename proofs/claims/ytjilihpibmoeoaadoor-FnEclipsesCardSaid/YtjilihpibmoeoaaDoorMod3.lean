/-
  Contacts, share, area and text of a model.
-/
import Derived.Test.YtjilihpibmoeoaaDoorMod2
import Derived.StillTailTactics
import Derived.Laws.ResultCell
namespace Go.Proofs.YtjilihpibmoeoaaDoor
open Go.RowKit
set_option maxRecDepth 100000

theorem own4 {w : World} {g : Nat} {x y z u : Int} {e : TypeId} (h : w.heap[g]? = some (.cells #[.int .i64 x, .int .i64 y, .int .i64 z, .int .i64 u] e (0, 0))) : Ow eI 1 w g e (.slice (some ⟨g, 0, none⟩) 4 4) 4 [x, y, z, u] :=
  ⟨by simp [eI], .inr ⟨g, 4, _, rfl, Nat.le_refl _, h, Nat.le_refl _, by simp [maxLen], by simp, by simp [eI]⟩⟩
theorem fracNew (w : World) (f : Frac) (t : TypeId) : let w0 := w.alloc (.cells #[.int .i64 f.num, .int .i64 f.den] t)
    w0.cell? ⟨w.heap.size, 0, none⟩ = some (.int .i64 f.num) ∧ w0.cell? ⟨w.heap.size, 1, none⟩ = some (.int .i64 f.den) ∧ Below w.heap.size w w0 ∧ w.heap.size < w0.heap.size := by
  have h := fun j => cell_of_row (w.alloc (.cells #[.int .i64 f.num, .int .i64 f.den] t)) w.heap.size j _ t (0, 0) (heap_alloc_new w _)
  exact ⟨(h 0).trans rfl, (h 1).trans rfl, (Below.refl _ _).alloc (Nat.le_refl _) _, by simp⟩
set_option maxHeartbeats 2000000 in
theorem gcd_any (a b : Nat) (w : World) (ha : a ≤ 1000000000) (hb : b ≤ 1000000000) : Calls Tryd.prog 42 #[.int .i64 a, .int .i64 b] w fun e w' => e = .returned (.int .i64 (Nat.gcd a b : Nat)) ∧ Below w.heap.size w w' := by
  obtain ⟨G, hG⟩ : ∃ G, Nat.gcd a b = G := ⟨_, rfl⟩
  rw [hG]
  go_enter Tryd.func42, Tryd.ntmps42
  go_wp2_with fail
  go_loopw [0, 1] (fun i j wr => ∃ x y : Nat, i = .int .i64 x ∧ j = .int .i64 y ∧ x ≤ 1000000000 ∧ y ≤ 1000000000 ∧ Nat.gcd x y = G ∧ Below w.heap.size w wr) (fun _ j _ => (intOf j).toNat)
  case atStart => exact ⟨a, b, rfl, rfl, ha, hb, hG, Below.refl _ _⟩
  case round =>
    obtain ⟨x, y, rfl, rfl, hx, hy, hxy, hbr⟩ := hrel
    by_cases h0 : y = 0
    · subst h0
      have dd : ((0 : Nat) != 0) = false := rfl
      have d1 : (((0 : Nat) : Int) != 0) = false := rfl
      rw [Nat.gcd_zero_right] at hxy
      subst hxy
      go_wp2_with fail
      refine (abs_any (x : Int) _ (by omega) (by omega)).mono ?_
      rintro e w1 ⟨rfl, rfl⟩
      rw [show absI (x : Int) = x by unfold absI; rw [if_neg (by omega)]]
      go_wp2_with fail
      go_ret
      exact ⟨rfl, hbr⟩
    · have d0 : (y != 0) = true := by rw [bne_iff_ne]; exact h0
      have d1 : ((y : Int) != 0) = true := by rw [bne_iff_ne]; omega
      have d2 : ((y : Int) == 0) = false := by rw [beq_eq_false_iff_ne]; omega
      have hy0 : (y : Int) ≠ 0 := by omega
      have k1 : ((x : Int) % (y : Int)) = ((x % y : Nat) : Int) := rfl
      have k2 : Int.tmod (x : Int) (y : Int) = ((x % y : Nat) : Int) := by rw [Int.tmod_eq_emod_of_nonneg (by omega)]; rfl
      have k3 : x % y < y := Nat.mod_lt _ (by omega)
      have hg2 : Nat.gcd y (x % y) = G := by rw [← hxy, Nat.gcd_comm x y, Nat.gcd_rec y x, Nat.gcd_comm]
      obtain ⟨r, hr⟩ : ∃ r, x % y = r := ⟨_, rfl⟩
      rw [hr] at k1 k2 k3 hg2
      clear hr
      go_wp2_with fail
      go_quiet (fail)
      have hb7 : Below w.heap.size w (wr.drewN nq) := below_drewN hbr nq
      go_wp2_with fail
      go_roundw
      case rel => exact ⟨y, r, rfl, by go_num, by omega, by omega, hg2, hb7⟩
      case measure => simp [intOf]; omega
set_option maxHeartbeats 2000000 in
theorem lowest_any (a b : Nat) (w : World) (ha : 1 ≤ a) (hab : a ≤ b) (hb : b ≤ 1000000) : Calls Tryd.prog 35 #[.int .i64 a, .int .i64 b] w fun e w' => ∃ x y : Int, e = .returned (.agg #[.int .i64 x, .int .i64 y]) ∧ 1 ≤ x ∧ x ≤ y ∧ y ≤ b ∧ Below w.heap.size w w' := by
  have hG := gcd_any a b
  have g1 : 1 ≤ Nat.gcd a b := Nat.gcd_pos_of_pos_left _ (by omega)
  have g2 : Nat.gcd a b ≤ a := Nat.gcd_le_left _ (by omega)
  generalize Nat.gcd a b = g at *
  have HG := Lib.hid hG
  have q1 : 1 ≤ a / g := (Nat.le_div_iff_mul_le (by omega)).mpr (by omega)
  have q2 : a / g ≤ b / g := Nat.div_le_div_right hab
  have q3 : b / g ≤ b := Nat.div_le_self _ _
  have k1 : Int.tdiv (a : Int) (g : Int) = ((a / g : Nat) : Int) := by rw [Int.tdiv_eq_ediv_of_nonneg (by omega)]; rfl
  have k2 : Int.tdiv (b : Int) (g : Int) = ((b / g : Nat) : Int) := by rw [Int.tdiv_eq_ediv_of_nonneg (by omega)]; rfl
  have k3 : (a : Int) / (g : Int) = ((a / g : Nat) : Int) := rfl
  have k4 : (b : Int) / (g : Int) = ((b / g : Nat) : Int) := rfl
  have hg0 : (g : Int) ≠ 0 := by omega
  have hg0' : ((g : Int) == 0) = false := by rw [beq_eq_false_iff_ne]; exact hg0
  have hba : Below w.heap.size w (w.alloc (.cells #[.int .i64 0, .int .i64 0] 41)) := (Below.refl _ _).alloc (Nat.le_refl _) _
  have HRB := Lib.hid (heap_alloc_new w (.cells #[.int .i64 0, .int .i64 0] 41))
  have hsz : w.heap.size < (w.alloc (.cells #[.int .i64 0, .int .i64 0] 41)).heap.size := by simp
  have HBA := Lib.hid hba
  have d1 : decide ((b : Int) < 0) = false := by simp
  clear hba hG
  obtain ⟨A, hA⟩ : ∃ A, a / g = A := ⟨_, rfl⟩
  obtain ⟨B, hB⟩ : ∃ B, b / g = B := ⟨_, rfl⟩
  rw [hA] at q1 q2 k1 k3
  rw [hB] at q2 q3 k2 k4
  clear hA hB
  have hgn : ¬ g = 0 := by omega
  have iA : IntKind.i64.wrap (A : Int) = A := IntWalk.i64_in _ (by omega)
  have iB : IntKind.i64.wrap (B : Int) = B := IntWalk.i64_in _ (by omega)
  go_enter Tryd.func35, Tryd.ntmps35
  go_upto_region 1 with (fail)
  generalize w.alloc (.cells #[.int .i64 0, .int .i64 0] 41) = wA at *
  go_wp2_with fail
  refine (HG.out _ (by omega) (by omega)).mono ?_
  rintro e w1 ⟨rfl, hb1⟩
  have hR1 := (hb1.block _ hsz).trans HRB.out
  have HB1 := Lib.hid (HBA.out.trans (hb1.mono (Nat.le_of_lt hsz)))
  have HR1 := Lib.hid hR1
  have hrs : w.heap.size < w1.heap.size := lt_of_block hR1
  clear hb1 hR1
  go_wp2_with fail
  go_still_tail 7, (by kernel_rfl)
  change wpList _ _ _ _ _ w1.drew
  have hown : Ow Frac.enc 2 w1.drew w.heap.size 41 (.slice (some ⟨w.heap.size, 0, none⟩) 1 1) 1 [⟨0, 0⟩] := ⟨by simp [Frac.enc], .inr ⟨w.heap.size, 1, _, rfl, Nat.le_refl _, HR1.out, Nat.le_refl _, by simp [maxLen], by simp, by simp [Frac.enc]⟩⟩
  have HBd : Hid (Below w.heap.size w w1.drew) := Lib.hid HB1.out.drew
  have hlt3 : w.heap.size < w1.drew.heap.size := hrs
  generalize w1.drew = w3 at *
  clear HR1 HB1 hrs
  have HY : Hid (([⟨0, 0⟩] : List Frac).set 0 ⟨(A : Int), (B : Int)⟩ = [⟨(A : Int), (B : Int)⟩]) := Lib.hid rfl
  go_wp2_with (with_reducible refine wpl_set Frac.len (by decide) _ rfl 41 (.tmp 4) (.tmp 19) rfl w.heap.size 0 rfl _ rfl ⟨(A : Int), (B : Int)⟩ rfl ?s1 (Frac.one _) w.heap.size 41 1 1 0 [⟨0, 0⟩] hown (by decide) rfl w.heap.size (Nat.le_refl _) ?s2 [⟨(A : Int), (B : Int)⟩] HY ?_)
  case s1 => kernel_rfl
  case s2 => omega
  intro w4 hown4 hb4 _
  obtain ⟨b', o', he, _, hc⟩ := (hown4.rd Frac.len (by decide)) 0 _ rfl
  simp only [Option.some.injEq, Addr.mk.injEq, and_true] at he
  obtain ⟨rfl, rfl⟩ := he
  have x0 : w4.cell? ⟨w.heap.size, 0, none⟩ = some (.int .i64 (A : Int)) := hc 0 _ rfl
  have x1 : w4.cell? ⟨w.heap.size, 1, none⟩ = some (.int .i64 (B : Int)) := hc 1 _ rfl
  have HB4 := Lib.hid (HBd.out.trans hb4)
  clear hown4 hb4 hc
  go_wp2_with fail
  refine bodyPost_ret (v := .agg #[.int .i64 (A : Int), .int .i64 (B : Int)]) ((results_cell1 rfl _ _ _).trans ?r1) rfl ?_
  case r1 => go_simp
  exact ⟨(A : Int), (B : Int), rfl, by omega, by omega, by omega, HB4.out⟩
set_option maxHeartbeats 2000000 in
theorem Area_any (m : Mod) (w : World) (h : ModOk m) : Calls Tryd.prog 18 #[.agg #[.int .i64 m.depth, .int .i64 m.half, .int .i64 m.flat]] w fun e w' => e = .returned (.tuple #[.int .i64 (m.depth * (m.half + m.flat)), .int .i64 0]) ∧ Below w.heap.size w w' := by
  have HK := Lib.hid h
  have k1 : 0 ≤ m.depth * (m.half + m.flat) := Int.mul_nonneg (by unfold ModOk at h; omega) (by unfold ModOk at h; omega)
  have k2 : m.depth * (m.half + m.flat) ≤ 2000 * 2000 := Int.le_trans (Int.mul_le_mul_of_nonneg_right h.2.1 (by unfold ModOk at h; omega)) (Int.mul_le_mul_of_nonneg_left (by unfold ModOk at h; omega) (by omega))
  have i1 : IntKind.i64.wrap (m.half + m.flat) = m.half + m.flat := IntWalk.i64_in _ (by unfold ModOk at h; omega)
  have i2 : IntKind.i64.wrap (m.depth * (m.half + m.flat)) = m.depth * (m.half + m.flat) := IntWalk.i64_in _ (by omega)
  obtain ⟨d0, d1, d2, hb, hlt⟩ := modNew w m 36
  have HC : Hid (∀ w', Below (w.alloc (.cells #[.int .i64 m.depth, .int .i64 m.half, .int .i64 m.flat] 36)).heap.size (w.alloc (.cells #[.int .i64 m.depth, .int .i64 m.half, .int .i64 m.flat] 36)) w' → w.heap.size < w'.heap.size ∧ w'.cell? ⟨w.heap.size, 0, none⟩ = some (.int .i64 m.depth) ∧ w'.cell? ⟨w.heap.size, 1, none⟩ = some (.int .i64 m.half) ∧ w'.cell? ⟨w.heap.size, 2, none⟩ = some (.int .i64 m.flat)) := Lib.hid fun w' hb' => ⟨Nat.lt_of_lt_of_le hlt hb'.size, (hb'.cell (p := ⟨w.heap.size, 0, none⟩) hlt).trans d0, (hb'.cell (p := ⟨w.heap.size, 1, none⟩) hlt).trans d1, (hb'.cell (p := ⟨w.heap.size, 2, none⟩) hlt).trans d2⟩
  have HB := Lib.hid hb
  have hle := hb.size
  clear d0 d1 d2 hb hlt
  clear k1 k2 h
  go_enter Tryd.func18, Tryd.ntmps18
  go_upto_region 1 with (fail)
  generalize w.alloc (.cells #[.int .i64 m.depth, .int .i64 m.half, .int .i64 m.flat] 36) = w0 at *
  obtain ⟨_, x0, x1, x2⟩ := HC.out _ (Below.refl _ _)
  go_wp2_with fail
  refine (ValidModel_any m _ HK.out).mono ?_
  rintro e w1 ⟨rfl, hb1⟩
  have HB1 := Lib.hid (HB.out.trans (hb1.mono hle))
  have HBB := Lib.hid hb1
  clear x0 x1 x2 hb1
  obtain ⟨_, x0, x1, x2⟩ := HC.out _ HBB.out
  go_wp2_with fail
  go_ret2
  exact ⟨rfl, HB1.out⟩
set_option maxHeartbeats 2000000 in
theorem ModText_any (m : Mod) (w : World) (h : ModOk m) (hT : TabOk w) : Calls Tryd.prog 19 #[.agg #[.int .i64 m.depth, .int .i64 m.half, .int .i64 m.flat]] w fun e w' => ∃ s : ByteArray, e = .returned (.string s) ∧ 1 ≤ s.size ∧ Below w.heap.size w w' := by
  have HT := Lib.hid hT
  have j0 : I64 m.depth := by have := h; unfold ModOk at this; unfold I64; omega
  have j1 : I64 m.half := by have := h; unfold ModOk at this; unfold I64; omega
  have j2 : I64 m.flat := by have := h; unfold ModOk at this; unfold I64; omega
  have z0 := decB_len _ j0
  have z1 := decB_len _ j1
  have z2 := decB_len _ j2
  have HK := Lib.hid h
  obtain ⟨d0, d1, d2, hb, hlt⟩ := modNew w m 36
  have HC : Hid (∀ w', Below (w.alloc (.cells #[.int .i64 m.depth, .int .i64 m.half, .int .i64 m.flat] 36)).heap.size (w.alloc (.cells #[.int .i64 m.depth, .int .i64 m.half, .int .i64 m.flat] 36)) w' → w.heap.size < w'.heap.size ∧ w'.cell? ⟨w.heap.size, 0, none⟩ = some (.int .i64 m.depth) ∧ w'.cell? ⟨w.heap.size, 1, none⟩ = some (.int .i64 m.half) ∧ w'.cell? ⟨w.heap.size, 2, none⟩ = some (.int .i64 m.flat)) := Lib.hid fun w' hb' => ⟨Nat.lt_of_lt_of_le hlt hb'.size, (hb'.cell (p := ⟨w.heap.size, 0, none⟩) hlt).trans d0, (hb'.cell (p := ⟨w.heap.size, 1, none⟩) hlt).trans d1, (hb'.cell (p := ⟨w.heap.size, 2, none⟩) hlt).trans d2⟩
  have HB := Lib.hid hb
  have hle := hb.size
  clear d0 d1 d2 hb hlt
  go_enter Tryd.func19, Tryd.ntmps19
  go_upto_region 1 with (fail)
  generalize w.alloc (.cells #[.int .i64 m.depth, .int .i64 m.half, .int .i64 m.flat] 36) = w0 at *
  obtain ⟨_, x0, x1, x2⟩ := HC.out _ (Below.refl _ _)
  go_wp2_with fail
  refine (ValidModel_any m _ HK.out).mono ?_
  rintro e w1 ⟨rfl, hb1⟩
  have HB1 := Lib.hid hb1
  clear x0 x1 x2 hb1
  obtain ⟨hl1, x0, x1, x2⟩ := HC.out _ HB1.out
  have n0 := cls_cell (B := w1.heap.size) hl1 x0
  have n1 := cls_cell (B := w1.heap.size) hl1 x1
  have n2 := cls_cell (B := w1.heap.size) hl1 x2
  have HTB : Hid (∀ u : Cls w1.heap.size w1, TabOk u.w) := Lib.hid fun u => (HT.out.below (HB.out.trans ((HB1.out).mono hle))).below u.ok
  clear x0 x1 x2
  go_upto_region 3 with (fail)
  refine wp_region_cls w1 (B := w1.heap.size) (by kernel_rfl) (by kernel_rfl) (Below.refl _ _) ?_
  repeat (go_big_quiet_step ((go_at_call 30; exact cls_call (Nat.le_refl _) (Decimal_any _ (by assumption) _ (HTB.out _)))))
  refine wpQuiet_nil ?_
  intro _ hw'
  obtain ⟨uq, hw''⟩ := hw'
  subst hw''
  have hb3 := uq.ok
  generalize uq.w = w3 at hb3
  have HB3 := Lib.hid (HB.out.trans ((HB1.out.trans (hb3.mono HB1.out.size)).mono hle))
  clear n0 n1 n2 hb3
  go_wp2_with fail
  go_ret
  exact ⟨_, rfl, by simp only [ByteArray.size_append', ByteArray.size_mk']; first | omega | (simp; done) | (simp; omega), HB3.out⟩
set_option maxHeartbeats 3000000 in
theorem Contacts_any (m : Mod) (v : Eph) (cy : Int) (w : World) (h : ModOk m) (hv : EphOk v) (h0 : 0 ≤ cy) (h1 : cy ≤ 40) : Calls Tryd.prog 16 #[.agg #[.int .i64 m.depth, .int .i64 m.half, .int .i64 m.flat], .agg #[.int .i64 v.epoch, .int .i64 v.per], .int .i64 cy] w fun e w' => ∃ a', e = .returned (.tuple #[.slice a' 4 4, .int .i64 0]) ∧ Rd eI 1 w' a' [v.epoch + cy * v.per - m.half, v.epoch + cy * v.per - m.flat, v.epoch + cy * v.per + m.flat, v.epoch + cy * v.per + m.half] ∧ Below w.heap.size w w' := by
  have HK := Lib.hid h
  have HV := Lib.hid hv
  have H1 : Hid (inB cy (-10000) 10000 = true) := Lib.hid (inB_true (by omega) (by omega))
  have j0 : 0 ≤ cy * v.per := Int.mul_nonneg h0 (by unfold EphOk at hv; omega)
  have j1 : cy * v.per ≤ 40 * 10000 := Int.le_trans (Int.mul_le_mul_of_nonneg_right h1 (by unfold EphOk at hv; omega)) (Int.mul_le_mul_of_nonneg_left hv.2.2.2 (by omega))
  have p0 := hv.1
  have p1 := hv.2.1
  obtain ⟨_, _, m2, m3, m4, m5⟩ := h
  have i0 : IntKind.i64.wrap (cy * v.per) = cy * v.per := IntWalk.i64_in _ (by omega)
  have i1 : IntKind.i64.wrap (v.epoch + cy * v.per) = v.epoch + cy * v.per := IntWalk.i64_in _ (by omega)
  have i2 : IntKind.i64.wrap (v.epoch + cy * v.per - m.half) = v.epoch + cy * v.per - m.half := IntWalk.i64_in _ (by omega)
  have i3 : IntKind.i64.wrap (v.epoch + cy * v.per - m.flat) = v.epoch + cy * v.per - m.flat := IntWalk.i64_in _ (by omega)
  have i4 : IntKind.i64.wrap (v.epoch + cy * v.per + m.flat) = v.epoch + cy * v.per + m.flat := IntWalk.i64_in _ (by omega)
  have i5 : IntKind.i64.wrap (v.epoch + cy * v.per + m.half) = v.epoch + cy * v.per + m.half := IntWalk.i64_in _ (by omega)
  obtain ⟨d0, d1, d2, hb, hlt⟩ := modNew w m 36
  obtain ⟨e0, e1, hb', hlt'⟩ := ephNew (w.alloc (.cells #[.int .i64 m.depth, .int .i64 m.half, .int .i64 m.flat] 36)) v 25
  obtain ⟨wE, hwE⟩ : ∃ wE, (w.alloc (.cells #[.int .i64 m.depth, .int .i64 m.half, .int .i64 m.flat] 36)).alloc (.cells #[.int .i64 v.epoch, .int .i64 v.per] 25) = wE := ⟨_, rfl⟩
  have hg : (w.alloc (.cells #[.int .i64 m.depth, .int .i64 m.half, .int .i64 m.flat] 36)).heap.size = w.heap.size + 1 := by simp
  rw [hwE, hg] at e0 e1 hb' hlt'
  have HC : Hid (∀ w', Below wE.heap.size wE w' → w'.cell? ⟨w.heap.size, 0, none⟩ = some (.int .i64 m.depth) ∧ w'.cell? ⟨w.heap.size, 1, none⟩ = some (.int .i64 m.half) ∧ w'.cell? ⟨w.heap.size, 2, none⟩ = some (.int .i64 m.flat) ∧ w'.cell? ⟨w.heap.size + 1, 0, none⟩ = some (.int .i64 v.epoch) ∧ w'.cell? ⟨w.heap.size + 1, 1, none⟩ = some (.int .i64 v.per)) := Lib.hid fun w' hx => 
    have hlw : w.heap.size < w.heap.size + 1 := Nat.lt_succ_self _
    have hlw' : w.heap.size < wE.heap.size := Nat.lt_trans hlw hlt'
    ⟨(hx.cell (p := ⟨w.heap.size, 0, none⟩) hlw').trans ((hb'.cell (p := ⟨w.heap.size, 0, none⟩) hlw).trans d0), (hx.cell (p := ⟨w.heap.size, 1, none⟩) hlw').trans ((hb'.cell (p := ⟨w.heap.size, 1, none⟩) hlw).trans d1), (hx.cell (p := ⟨w.heap.size, 2, none⟩) hlw').trans ((hb'.cell (p := ⟨w.heap.size, 2, none⟩) hlw).trans d2), (hx.cell (p := ⟨w.heap.size + 1, 0, none⟩) hlt').trans e0, (hx.cell (p := ⟨w.heap.size + 1, 1, none⟩) hlt').trans e1⟩
  have HB : Hid (Below w.heap.size w wE) := Lib.hid (hb.trans (hb'.mono (Nat.le_succ _)))
  have hle := HB.out.size
  have HW : Hid (wE = (w.alloc (.cells #[.int .i64 m.depth, .int .i64 m.half, .int .i64 m.flat] 36)).alloc (.cells #[.int .i64 v.epoch, .int .i64 v.per] 25)) := Lib.hid hwE.symm
  clear d0 d1 d2 e0 e1 hb hb' hlt hlt' hwE hg
  clear hv j0 j1 p0 p1
  go_enter Tryd.func16, Tryd.ntmps16
  go_upto_region 1 with (fail)
  rw [← HW.out]
  clear HW
  obtain ⟨x0, x1, x2, y0, y1⟩ := HC.out _ (Below.refl _ _)
  go_wp2_with fail
  refine (ValidModel_any m _ HK.out).mono ?_
  rintro e w1 ⟨rfl, hb1⟩
  have HB1 := Lib.hid hb1
  clear x0 x1 x2 y0 y1 hb1
  obtain ⟨x0, x1, x2, y0, y1⟩ := HC.out _ HB1.out
  go_wp2_with fail
  refine (ValidEph_any v _ HV.out).mono ?_
  rintro e w2 ⟨rfl, hb2⟩
  have HB2 := Lib.hid (HB1.out.trans (hb2.mono HB1.out.size))
  clear x0 x1 x2 y0 y1 hb2
  go_wp2_with fail
  refine (in_lit _ _ _ _ _ H1.out).mono ?_
  rintro e w3 ⟨rfl, rfl⟩
  obtain ⟨x0, x1, x2, y0, y1⟩ := HC.out _ HB2.out
  have hbb := HB.out.trans (HB2.out.mono hle)
  have HB3 := Lib.hid (hbb.alloc hbb.size (.cells #[.int .i64 (v.epoch + cy * v.per - m.half), .int .i64 (v.epoch + cy * v.per - m.flat), .int .i64 (v.epoch + cy * v.per + m.flat), .int .i64 (v.epoch + cy * v.per + m.half)] 2))
  clear hbb
  have HO := Lib.hid ((own4 (heap_alloc_new w2 (.cells #[.int .i64 (v.epoch + cy * v.per - m.half), .int .i64 (v.epoch + cy * v.per - m.flat), .int .i64 (v.epoch + cy * v.per + m.flat), .int .i64 (v.epoch + cy * v.per + m.half)] 2))).rd eI_len (by decide))
  go_wp2_with fail
  go_ret2
  exact ⟨_, rfl, HO.out, HB3.out⟩
set_option maxHeartbeats 3000000 in
theorem Share_any (m : Mod) (v : Eph) (w : World) (h : ModOk m) (hv : EphOk v) : Calls Tryd.prog 17 #[.agg #[.int .i64 m.depth, .int .i64 m.half, .int .i64 m.flat], .agg #[.int .i64 v.epoch, .int .i64 v.per]] w fun e w' => ∃ x y : Int, e = .returned (.tuple #[.agg #[.int .i64 x, .int .i64 y], .int .i64 0]) ∧ 1 ≤ x ∧ x ≤ y ∧ y ≤ 10000 ∧ Below w.heap.size w w' := by
  have HK := Lib.hid h
  have HV := Lib.hid hv
  obtain ⟨mn, hmn⟩ : ∃ mn : Nat, min (2 * m.half) v.per = mn := ⟨(min (2 * m.half) v.per).toNat, by unfold ModOk at h; unfold EphOk at hv; omega⟩
  obtain ⟨pr, hpr⟩ : ∃ pr : Nat, v.per = pr := ⟨v.per.toNat, by unfold EphOk at hv; omega⟩
  have mn1 : 1 ≤ mn := by unfold ModOk at h; unfold EphOk at hv; omega
  have mn2 : mn ≤ pr := by unfold ModOk at h; unfold EphOk at hv; omega
  have mn3 : pr ≤ 10000 := by unfold EphOk at hv; omega
  have HL := Lib.hid (lowest_any mn pr)
  have HMN := Lib.hid hmn
  have HPR := Lib.hid hpr
  have i1 : IntKind.i64.wrap (2 * m.half) = 2 * m.half := IntWalk.i64_in _ (by unfold ModOk at h; omega)
  clear hmn hpr
  obtain ⟨d0, d1, d2, hb, hlt⟩ := modNew w m 36
  obtain ⟨e0, e1, hb', hlt'⟩ := ephNew (w.alloc (.cells #[.int .i64 m.depth, .int .i64 m.half, .int .i64 m.flat] 36)) v 25
  obtain ⟨wE, hwE⟩ : ∃ wE, (w.alloc (.cells #[.int .i64 m.depth, .int .i64 m.half, .int .i64 m.flat] 36)).alloc (.cells #[.int .i64 v.epoch, .int .i64 v.per] 25) = wE := ⟨_, rfl⟩
  have hg : (w.alloc (.cells #[.int .i64 m.depth, .int .i64 m.half, .int .i64 m.flat] 36)).heap.size = w.heap.size + 1 := by simp
  rw [hwE, hg] at e0 e1 hb' hlt'
  have HC : Hid (∀ w', Below wE.heap.size wE w' → w'.cell? ⟨w.heap.size, 0, none⟩ = some (.int .i64 m.depth) ∧ w'.cell? ⟨w.heap.size, 1, none⟩ = some (.int .i64 m.half) ∧ w'.cell? ⟨w.heap.size, 2, none⟩ = some (.int .i64 m.flat) ∧ w'.cell? ⟨w.heap.size + 1, 0, none⟩ = some (.int .i64 v.epoch) ∧ w'.cell? ⟨w.heap.size + 1, 1, none⟩ = some (.int .i64 v.per)) := Lib.hid fun w' hx => 
    have hlw : w.heap.size < w.heap.size + 1 := Nat.lt_succ_self _
    have hlw' : w.heap.size < wE.heap.size := Nat.lt_trans hlw hlt'
    ⟨(hx.cell (p := ⟨w.heap.size, 0, none⟩) hlw').trans ((hb'.cell (p := ⟨w.heap.size, 0, none⟩) hlw).trans d0), (hx.cell (p := ⟨w.heap.size, 1, none⟩) hlw').trans ((hb'.cell (p := ⟨w.heap.size, 1, none⟩) hlw).trans d1), (hx.cell (p := ⟨w.heap.size, 2, none⟩) hlw').trans ((hb'.cell (p := ⟨w.heap.size, 2, none⟩) hlw).trans d2), (hx.cell (p := ⟨w.heap.size + 1, 0, none⟩) hlt').trans e0, (hx.cell (p := ⟨w.heap.size + 1, 1, none⟩) hlt').trans e1⟩
  have HB : Hid (Below w.heap.size w wE) := Lib.hid (hb.trans (hb'.mono (Nat.le_succ _)))
  have hle := HB.out.size
  have HW : Hid (wE = (w.alloc (.cells #[.int .i64 m.depth, .int .i64 m.half, .int .i64 m.flat] 36)).alloc (.cells #[.int .i64 v.epoch, .int .i64 v.per] 25)) := Lib.hid hwE.symm
  clear d0 d1 d2 e0 e1 hb hb' hlt hlt' hwE hg
  have hba : Below wE.heap.size wE (wE.alloc (.cells #[.int .i64 0, .int .i64 0] 41)) := (Below.refl _ _).alloc (Nat.le_refl _) _
  have hRB := heap_alloc_new wE (.cells #[.int .i64 0, .int .i64 0] 41)
  have hsz : wE.heap.size < (wE.alloc (.cells #[.int .i64 0, .int .i64 0] 41)).heap.size := by simp
  have hg2 : wE.heap.size = w.heap.size + 1 + 1 := by rw [HW.out]; simp
  obtain ⟨wF, hwF⟩ : ∃ wF, wE.alloc (.cells #[.int .i64 0, .int .i64 0] 41) = wF := ⟨_, rfl⟩
  rw [hwF] at hba hRB hsz
  rw [hg2] at hRB hsz
  have HBA := Lib.hid hba
  have HRB := Lib.hid hRB
  have HG2 := Lib.hid hg2
  have HF : Hid (wF = ((w.alloc (.cells #[.int .i64 m.depth, .int .i64 m.half, .int .i64 m.flat] 36)).alloc (.cells #[.int .i64 v.epoch, .int .i64 v.per] 25)).alloc (.cells #[.int .i64 0, .int .i64 0] 41)) := Lib.hid (by rw [← hwF, HW.out])
  clear hba hRB HW hwF h hv hg2
  go_enter Tryd.func17, Tryd.ntmps17
  go_upto_region 1 with (fail)
  rw [← HF.out]
  clear HF
  obtain ⟨x0, x1, x2, y0, y1⟩ := HC.out _ HBA.out
  go_wp2_with fail
  refine (ValidModel_any m _ HK.out).mono ?_
  rintro e w1 ⟨rfl, hb1⟩
  have HB1 := Lib.hid hb1
  clear x0 x1 x2 y0 y1 hb1
  obtain ⟨x0, x1, x2, y0, y1⟩ := HC.out _ (HBA.out.trans (HB1.out.mono HBA.out.size))
  go_wp2_with fail
  refine (ValidEph_any v _ HV.out).mono ?_
  rintro e w2 ⟨rfl, hb2⟩
  have HB2 := Lib.hid (HB1.out.trans (hb2.mono HB1.out.size))
  clear x0 x1 x2 y0 y1 hb2
  obtain ⟨x0, x1, x2, y0, y1⟩ := HC.out _ (HBA.out.trans (HB2.out.mono HBA.out.size))
  go_wp2_with fail
  rw [HMN.out, HPR.out]
  refine (HL.out _ mn1 mn2 (by omega)).mono ?_
  rintro e w3 ⟨nu, de, rfl, q1, q2, q3, hb3⟩
  have hb3' := HB2.out.trans (hb3.mono HB2.out.size)
  have hR3 := (hb3'.block _ hsz).trans HRB.out
  have hrs : w.heap.size + 1 + 1 < w3.heap.size := lt_of_block hR3
  have hown : Ow Frac.enc 2 w3 (w.heap.size + 1 + 1) 41 (.slice (some ⟨w.heap.size + 1 + 1, 0, none⟩) 1 1) 1 [⟨0, 0⟩] := ⟨by simp [Frac.enc], .inr ⟨w.heap.size + 1 + 1, 1, _, rfl, Nat.le_refl _, hR3, Nat.le_refl _, by simp [maxLen], by simp, by simp [Frac.enc]⟩⟩
  have HB3 := Lib.hid (HB.out.trans ((HBA.out.trans (hb3'.mono HBA.out.size)).mono hle))
  have HY : Hid (([⟨0, 0⟩] : List Frac).set 0 ⟨nu, de⟩ = [⟨nu, de⟩]) := Lib.hid rfl
  have Q := Lib.hid (And.intro q1 (And.intro q2 (show de ≤ 10000 by omega)))
  have hrs0 : w.heap.size ≤ w.heap.size + 1 + 1 := by omega
  clear x0 x1 x2 y0 y1 hb3 hb3' hR3 q1 q2 q3
  go_wp2_with (with_reducible refine wpl_set Frac.len (by decide) _ rfl 41 (.tmp 4) (.tmp 23) rfl (w.heap.size + 1 + 1) 0 rfl _ rfl ⟨nu, de⟩ rfl ?s1 (Frac.one _) (w.heap.size + 1 + 1) 41 1 1 0 [⟨0, 0⟩] hown (by decide) rfl (w.heap.size + 1 + 1) (Nat.le_refl _) ?s2 [⟨nu, de⟩] HY ?_)
  case s1 => kernel_rfl
  case s2 => omega
  intro w4 hown4 hb4 _
  obtain ⟨b', o', he, _, hc⟩ := (hown4.rd Frac.len (by decide)) 0 _ rfl
  simp only [Option.some.injEq, Addr.mk.injEq, and_true] at he
  obtain ⟨rfl, rfl⟩ := he
  have x0 : w4.cell? ⟨w.heap.size + 1 + 1, 0, none⟩ = some (.int .i64 nu) := hc 0 _ rfl
  have x1 : w4.cell? ⟨w.heap.size + 1 + 1, 1, none⟩ = some (.int .i64 de) := hc 1 _ rfl
  have HB4 := Lib.hid (HB3.out.trans (hb4.mono hrs0))
  clear hown4 hb4 hc
  go_wp2_with fail
  refine bodyPost_ret (v := .tuple #[.agg #[.int .i64 nu, .int .i64 de], .int .i64 0]) ((results_cell_tmp rfl _ _ _).trans ?r1) rfl ?_
  case r1 => go_simp
  exact ⟨nu, de, rfl, Q.out.1, Q.out.2.1, Q.out.2.2, HB4.out⟩
end Go.Proofs.YtjilihpibmoeoaaDoor
