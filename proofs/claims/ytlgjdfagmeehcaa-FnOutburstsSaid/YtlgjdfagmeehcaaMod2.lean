/-
  The model that is drawn.
-/
import Derived.Test.YtlgjdfagmeehcaaMod
namespace Go.Proofs.Ytlgjdfagmeehcaa
open Go.RowKit
set_option maxRecDepth 100000

set_option maxHeartbeats 6000000 in
theorem modDraw (w0 w : World) (b : Nat) (a : Option Addr) (n c p : Nat) (z : Int) (xs : List Int) (hp : p ≤ 800000) (hl : xs.length = n) (ho : ∀ x ∈ xs, Byt x) (hr : Rd eB 1 w0 a xs) (h : SrcAt w0 w b a n c p z) :
    Calls Try.prog 55 #[.pointer (some ⟨b, 0, none⟩)] w fun e w' => ∃ v, e = .returned (.agg #[.int .i64 v.depth, .int .i64 v.half, .int .i64 v.flat]) ∧ ModOk v ∧ Below w0.heap.size w0 w' := by
  have HL := Lib.hid hl
  have HO := Lib.hid ho
  have HR := Lib.hid hr
  have hlt := h.lt
  have hb0 := Nat.le_trans h.base (Nat.le_of_lt hlt)
  have hS := h.alloc (.cells #[.int .i64 0, .int .i64 0, .int .i64 0] 25)
  have hR := heap_alloc_new w (.cells #[.int .i64 0, .int .i64 0, .int .i64 0] 25)
  have hsz : w.heap.size < (w.alloc (.cells #[.int .i64 0, .int .i64 0, .int .i64 0] 25)).heap.size := by simp
  have HS := Lib.hid hS
  have HRB := Lib.hid hR
  clear hl ho hr h hS hR
  go_enter Try.func55, Try.ntmps55
  go_upto_region 1 with (fail)
  generalize w.alloc (.cells #[.int .i64 0, .int .i64 0, .int .i64 0] 25) = wA at *
  generalize hr : w.heap.size = r at *
  clear hr
  go_wp2_with fail
  refine (srcPick 20 w0 _ b a n c p z xs (by omega) (by omega) (by omega) HL.out HO.out HR.out HS.out).mono ?_
  rintro e w1 ⟨v1, p1, z1, rfl, hv0, hv1, hp1, hs1, hu1⟩
  have HR1 := Lib.hid ((hu1.blk r hsz (by omega)).trans HRB.out)
  have HS1 := Lib.hid (hs1.alloc (.cells #[.int .i64 (100 * (1 + v1)), .int .i64 0, .int .i64 0] 25))
  have hr1 : r < w1.heap.size := Nat.lt_of_lt_of_le hsz hu1.size
  have hb1 : b < w1.heap.size := hs1.lt
  have HE1 := Lib.hid (heap_alloc_new w1 (.cells #[.int .i64 (100 * (1 + v1)), .int .i64 0, .int .i64 0] 25))
  have HR1' : Hid ((w1.alloc (.cells #[.int .i64 (100 * (1 + v1)), .int .i64 0, .int .i64 0] 25)).heap[r]? = _) := Lib.hid ((Below.heap_alloc w1 _ r hr1).trans HR1.out)
  have hsz1 : w1.heap.size < (w1.alloc (.cells #[.int .i64 (100 * (1 + v1)), .int .i64 0, .int .i64 0] 25)).heap.size := by simp
  clear hs1 hu1
  go_wp2_with fail
  generalize w1.alloc (.cells #[.int .i64 (100 * (1 + v1)), .int .i64 0, .int .i64 0] 25) = wB at *
  generalize hg : w1.heap.size = g at *
  clear hg
  refine (srcPick 20 w0 _ b a n c p1 z1 xs (by omega) (by omega) (by omega) HL.out HO.out HR.out HS1.out).mono ?_
  rintro e w2 ⟨v2, p2, z2, rfl, hv2, hv3, hp2, hs2, hu2⟩
  have hE2 := (hu2.blk g hsz1 (by omega)).trans HE1.out
  have hR2 := (hu2.blk r (by omega) (by omega)).trans HR1'.out
  have c1 : w2.cell? ⟨g, 1, none⟩ = some (.int .i64 0) := (blk_cell hE2 1).trans rfl
  have f1 := blk_free hE2 1
  have hbg : w0.heap.size ≤ g := by omega
  have HS2 := Lib.hid (hs2.set hbg (by omega) 1 (.int .i64 (50 * (1 + v2))))
  have hE3 := blk_set hE2 1 (.int .i64 (50 * (1 + v2)))
  have HE2 := Lib.hid hE3
  have HR2 : Hid ((w2.setCell ⟨g, 1, none⟩ (.int .i64 (50 * (1 + v2)))).heap[r]? = _) := Lib.hid ((Below.heap_setCell _ _ _ _ (by show r ≠ g; omega)).trans hR2)
  have hg2 : g < (w2.setCell ⟨g, 1, none⟩ (.int .i64 (50 * (1 + v2)))).heap.size := lt_of_block HE2.out
  have HD1 : Hid ((w2.setCell ⟨g, 1, none⟩ (.int .i64 (50 * (1 + v2)))).cell? ⟨g, 1, none⟩ = some (.int .i64 (50 * (1 + v2)))) := Lib.hid ((blk_cell hE3 1).trans rfl)
  clear hs2 hu2 hE2 hR2 hE3
  go_upto_region 3 with (fail)
  generalize w2.setCell ⟨g, 1, none⟩ (.int .i64 (50 * (1 + v2))) = w3 at *
  clear c1 f1
  have d1 := HD1.out
  go_wp2_with fail
  refine (srcPick (50 * (1 + v2)) w0 _ b a n c p2 z2 xs (by omega) (by omega) (by omega) HL.out HO.out HR.out HS2.out).mono ?_
  rintro e w4 ⟨v3, p3, z3, rfl, hv4, hv5, hp3, hs4, hu4⟩
  have hE4 := (hu4.blk g hg2 (by omega)).trans HE2.out
  have hR4 := (hu4.blk r (by omega) (by omega)).trans HR2.out
  have c2 : w4.cell? ⟨g, 2, none⟩ = some (.int .i64 0) := (blk_cell hE4 2).trans rfl
  have f2 := blk_free hE4 2
  have HS4 := Lib.hid (hs4.set hbg (by omega) 2 (.int .i64 v3))
  have HE4 := Lib.hid (blk_set hE4 2 (.int .i64 v3))
  have HR4 : Hid ((w4.setCell ⟨g, 2, none⟩ (.int .i64 v3)).heap[r]? = _) := Lib.hid ((Below.heap_setCell _ _ _ _ (by show r ≠ g; omega)).trans hR4)
  have hg4 : g < (w4.setCell ⟨g, 2, none⟩ (.int .i64 v3)).heap.size := lt_of_block HE4.out
  clear hs4 hu4 hE4 hR4 d1
  go_upto_region 4 with (fail)
  generalize w4.setCell ⟨g, 2, none⟩ (.int .i64 v3) = w5 at *
  clear c2 f2
  go_wp2_with fail
  refine (srcOne 3 w0 _ b a n c p3 z3 xs (by omega) (by omega) (by omega) HL.out HO.out HR.out HS4.out).mono ?_
  rintro e w6 ⟨B, p4, z4, rfl, hp4, hs6, hu6⟩
  have hE6 := (hu6.blk g hg4 (by omega)).trans HE4.out
  have hR6 := (hu6.blk r (by omega) (by omega)).trans HR4.out
  have HS6 := Lib.hid hs6
  cases B with
  | false =>
    clear hs6 hu6
    have d0 : w6.cell? ⟨g, 0, none⟩ = some (.int .i64 (100 * (1 + v1))) := (blk_cell hE6 0).trans rfl
    have d1 : w6.cell? ⟨g, 1, none⟩ = some (.int .i64 (50 * (1 + v2))) := (blk_cell hE6 1).trans rfl
    have d2 : w6.cell? ⟨g, 2, none⟩ = some (.int .i64 v3) := (blk_cell hE6 2).trans rfl
    have hown := ownMod hR6
    have hbr : w0.heap.size ≤ r := hb0
    have hrs : r ≤ w6.heap.size := Nat.le_of_lt (lt_of_block hR6)
    have HK : Hid (ModOk ⟨100 * (1 + v1), 50 * (1 + v2), v3⟩) := Lib.hid ⟨by show 100 ≤ 100 * (1 + v1); omega, by show 100 * (1 + v1) ≤ 2000; omega, by show 50 ≤ 50 * (1 + v2); omega, by show 50 * (1 + v2) ≤ 1000; omega, by show (0 : Int) ≤ v3; omega, by show v3 < 50 * (1 + v2); omega⟩
    obtain ⟨nv, hnv⟩ : ∃ nv : Mod, nv = ⟨100 * (1 + v1), 50 * (1 + v2), v3⟩ := ⟨_, rfl⟩
    have HY : Hid (([⟨0, 0, 0⟩] : List Mod).set 0 ⟨100 * (1 + v1), 50 * (1 + v2), v3⟩ = [nv]) := Lib.hid (by rw [hnv]; rfl)
    rw [← hnv] at HK
    have HNV := Lib.hid hnv
    clear hnv hE6 hR6
    go_wp2_with (with_reducible refine wpl_set Mod.len (by decide) _ rfl 25 (.tmp 2) (.tmp 22) rfl r 0 rfl _ rfl ⟨100 * (1 + v1), 50 * (1 + v2), v3⟩ rfl ?s1 (Mod.one _) r 25 1 1 0 [⟨0, 0, 0⟩] hown (by decide) rfl r (Nat.le_refl _) hrs [nv] HY ?_)
    case s1 => kernel_rfl
    intro w9 hown9 hb9 _
    obtain ⟨x0, x1, x2⟩ := Mod.cells1 hown9
    have HE := Lib.hid (HS6.out.ok.trans (hb9.mono hbr))
    clear hown9 hb9 d0 d1 d2
    go_wp2_with fail
    refine bodyPost_ret (v := .agg #[.int .i64 nv.depth, .int .i64 nv.half, .int .i64 nv.flat]) ((results_cell1 rfl _ _ _).trans ?r1) rfl ?_
    case r1 => go_simp
    exact ⟨nv, rfl, HK.out, HE.out⟩
  | true =>
    have c2 : w6.cell? ⟨g, 2, none⟩ = some (.int .i64 v3) := (blk_cell hE6 2).trans rfl
    have f2 := blk_free hE6 2
    have HS7 := Lib.hid (hs6.set hbg (by omega) 2 (.int .i64 0))
    have hE7 := blk_set hE6 2 (.int .i64 0)
    have hR7 : (w6.setCell ⟨g, 2, none⟩ (.int .i64 0)).heap[r]? = _ := (Below.heap_setCell _ _ _ _ (by show r ≠ g; omega)).trans hR6
    have HE7 := Lib.hid hE7
    have HR7 := Lib.hid hR7
    clear hs6 hu6 hE6 hR6 hE7 hR7
    go_upto_region 6 with (fail)
    generalize w6.setCell ⟨g, 2, none⟩ (.int .i64 0) = w7 at *
    clear c2 f2
    have hE7 := HE7.out
    have hR7 := HR7.out
    have d0 : w7.cell? ⟨g, 0, none⟩ = some (.int .i64 (100 * (1 + v1))) := (blk_cell hE7 0).trans rfl
    have d1 : w7.cell? ⟨g, 1, none⟩ = some (.int .i64 (50 * (1 + v2))) := (blk_cell hE7 1).trans rfl
    have d2 : w7.cell? ⟨g, 2, none⟩ = some (.int .i64 0) := (blk_cell hE7 2).trans rfl
    have hown := ownMod hR7
    have hbr : w0.heap.size ≤ r := hb0
    have hrs : r ≤ w7.heap.size := Nat.le_of_lt (lt_of_block hR7)
    have HK : Hid (ModOk ⟨100 * (1 + v1), 50 * (1 + v2), 0⟩) := Lib.hid ⟨by show 100 ≤ 100 * (1 + v1); omega, by show 100 * (1 + v1) ≤ 2000; omega, by show 50 ≤ 50 * (1 + v2); omega, by show 50 * (1 + v2) ≤ 1000; omega, by show (0 : Int) ≤ 0; omega, by show 0 < 50 * (1 + v2); omega⟩
    obtain ⟨nv, hnv⟩ : ∃ nv : Mod, nv = ⟨100 * (1 + v1), 50 * (1 + v2), 0⟩ := ⟨_, rfl⟩
    have HY : Hid (([⟨0, 0, 0⟩] : List Mod).set 0 ⟨100 * (1 + v1), 50 * (1 + v2), 0⟩ = [nv]) := Lib.hid (by rw [hnv]; rfl)
    rw [← hnv] at HK
    have HNV := Lib.hid hnv
    clear hnv hE7 hR7
    go_wp2_with (with_reducible refine wpl_set Mod.len (by decide) _ rfl 25 (.tmp 2) (.tmp 22) rfl r 0 rfl _ rfl ⟨100 * (1 + v1), 50 * (1 + v2), 0⟩ rfl ?s1 (Mod.one _) r 25 1 1 0 [⟨0, 0, 0⟩] hown (by decide) rfl r (Nat.le_refl _) hrs [nv] HY ?_)
    case s1 => kernel_rfl
    intro w9 hown9 hb9 _
    obtain ⟨x0, x1, x2⟩ := Mod.cells1 hown9
    have HE := Lib.hid (HS7.out.ok.trans (hb9.mono hbr))
    clear hown9 hb9 d0 d1 d2
    go_wp2_with fail
    refine bodyPost_ret (v := .agg #[.int .i64 nv.depth, .int .i64 nv.half, .int .i64 nv.flat]) ((results_cell1 rfl _ _ _).trans ?r1) rfl ?_
    case r1 => go_simp
    exact ⟨nv, rfl, HK.out, HE.out⟩
set_option maxHeartbeats 2000000 in
theorem A2Model_any (a : Option Addr) (n c : Nat) (xs : List Int) (w : World) (hl : xs.length = n) (ho : ∀ x ∈ xs, Byt x) (hr : Rd eB 1 w a xs) :
    Calls Try.prog 9 #[.slice a n c] w fun e w' => ∃ v, e = .returned (.agg #[.int .i64 v.depth, .int .i64 v.half, .int .i64 v.flat]) ∧ ModOk v ∧ Below w.heap.size w w' := by
  have HL := Lib.hid hl
  have HO := Lib.hid ho
  have hba : Below w.heap.size w (w.alloc (.cells #[.int .i64 0, .int .i64 0, .int .i64 0] 25)) := (Below.refl _ _).alloc (Nat.le_refl _) _
  have HR := Lib.hid (hr.below hba)
  have HRB := Lib.hid (heap_alloc_new w (.cells #[.int .i64 0, .int .i64 0, .int .i64 0] 25))
  have hsz : w.heap.size < (w.alloc (.cells #[.int .i64 0, .int .i64 0, .int .i64 0] 25)).heap.size := by simp
  have HBA := Lib.hid hba
  clear hl ho hr hba
  go_enter Try.func9, Try.ntmps9
  go_upto_region 1 with (fail)
  generalize w.alloc (.cells #[.int .i64 0, .int .i64 0, .int .i64 0] 25) = wA at *
  go_wp2_with fail
  refine (srcFrom a n c _).mono ?_
  rintro e w1 ⟨rfl, hs1, hlt1⟩
  have HS1 := Lib.hid hs1
  clear hs1
  go_wp2_with fail
  refine (modDraw wA _ _ a n c 0 0 xs (by omega) HL.out HO.out HR.out HS1.out).mono ?_
  rintro e w2 ⟨v, rfl, hv, hb2⟩
  have hR2 := (hb2.block _ hsz).trans HRB.out
  have hown := ownMod hR2
  have hrs : w.heap.size ≤ w2.heap.size := Nat.le_of_lt (lt_of_block hR2)
  have HV := Lib.hid hv
  have HB2 := Lib.hid (HBA.out.trans (hb2.mono (Nat.le_of_lt hsz)))
  have HY : Hid (([⟨0, 0, 0⟩] : List Mod).set 0 v = [v]) := Lib.hid rfl
  clear hv hb2 hR2
  go_wp2_with (with_reducible refine wpl_set Mod.len (by decide) _ rfl 25 (.tmp 2) (.tmp 5) rfl w.heap.size 0 rfl _ rfl v rfl ?s1 (Mod.one _) w.heap.size 25 1 1 0 [⟨0, 0, 0⟩] hown (by decide) rfl w.heap.size (Nat.le_refl _) hrs [v] HY ?_)
  case s1 => kernel_rfl
  intro w3 hown3 hb3 _
  obtain ⟨x0, x1, x2⟩ := Mod.cells1 hown3
  have HB3 := Lib.hid (HB2.out.trans hb3)
  clear hown3 hb3
  go_wp2_with fail
  refine bodyPost_ret (v := .agg #[.int .i64 v.depth, .int .i64 v.half, .int .i64 v.flat]) ((results_cell1 rfl _ _ _).trans ?r1) rfl ?_
  case r1 => go_simp
  exact ⟨v, rfl, HV.out, HB3.out⟩
end Go.Proofs.Ytlgjdfagmeehcaa
