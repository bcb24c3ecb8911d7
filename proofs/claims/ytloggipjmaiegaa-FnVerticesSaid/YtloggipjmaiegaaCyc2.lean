/-
  The ephemeris that is drawn; the times of an ephemeris within some time.
-/
import Derived.Test.YtloggipjmaiegaaCycA
namespace Go.Proofs.Ytloggipjmaiegaa
open Go.RowKit
set_option maxRecDepth 100000

theorem SrcAt.lt {w0 w : World} {b : Nat} {a : Option Addr} {n c p : Nat} {z : Int} (h : SrcAt w0 w b a n c p z) : b < w.heap.size := lt_of_block h.blk
theorem SrcAt.alloc {w0 w : World} {b : Nat} {a : Option Addr} {n c p : Nat} {z : Int} (h : SrcAt w0 w b a n c p z) (o : Obj) : SrcAt w0 (w.alloc o) b a n c p z :=
  ⟨h.base, h.ok.alloc h.ok.size o, (Below.heap_alloc _ _ _ h.lt).trans h.blk, h.z0, h.z1⟩
theorem SrcAt.set {w0 w : World} {b : Nat} {a : Option Addr} {n c p : Nat} {z : Int} (h : SrcAt w0 w b a n c p z) {g : Nat} (hg : w0.heap.size ≤ g) (hne : b ≠ g) (j : Nat) (u : Value) : SrcAt w0 (w.setCell ⟨g, j, none⟩ u) b a n c p z :=
  ⟨h.base, h.ok.setCell (p := ⟨g, j, none⟩) hg u, (Below.heap_setCell _ _ _ _ hne).trans h.blk, h.z0, h.z1⟩
theorem results_cell1 {fn : Func} {p : Tmp} {ty : TypeId} (h : fn.results = #[.cell p ty]) (tmps : Array Value) (P : Program) (w : World) :
    (results fn tmps).run P w = ((asAddr (tmps.getD p undef)).run P w).andThen fun a w₁ => (loadVar ty a).run P w₁ := by
  simp only [results, h]
  simp [Sem.run_bind, Result.andThen]
theorem ownEph {w : World} {g : Nat} {x y : Int} (h : w.heap[g]? = some (.cells #[.int .i64 x, .int .i64 y] 25 (0, 0))) : Ow Eph.enc 2 w g 25 (.slice (some ⟨g, 0, none⟩) 1 1) 1 [⟨x, y⟩] :=
  ⟨by simp [Eph.enc], .inr ⟨g, 1, _, rfl, Nat.le_refl _, h, Nat.le_refl _, by simp [maxLen], by simp, by simp [Eph.enc]⟩⟩
theorem Eph.cells1 {w : World} {base e b : Nat} {v : Eph} (h : Ow Eph.enc 2 w base e (.slice (some ⟨b, 0, none⟩) 1 1) 1 [v]) : w.cell? ⟨b, 0, none⟩ = some (.int .i64 v.epoch) ∧ w.cell? ⟨b, 1, none⟩ = some (.int .i64 v.per) := by
  obtain ⟨b', o', he, _, hc⟩ := (h.rd Eph.len (by decide)) 0 v rfl
  simp only [Option.some.injEq, Addr.mk.injEq, and_true] at he
  obtain ⟨rfl, rfl⟩ := he
  exact ⟨hc 0 _ rfl, hc 1 _ rfl⟩

set_option maxHeartbeats 4000000 in
theorem ephDraw (w0 w : World) (b : Nat) (a : Option Addr) (n c p : Nat) (z : Int) (xs : List Int) (hp : p ≤ 800000) (hl : xs.length = n) (ho : ∀ x ∈ xs, Byt x) (hr : Rd eB 1 w0 a xs) (h : SrcAt w0 w b a n c p z) :
    Calls Try.prog 112 #[.pointer (some ⟨b, 0, none⟩)] w fun e w' => ∃ v, e = .returned (.agg #[.int .i64 v.epoch, .int .i64 v.per]) ∧ EphOk v ∧ Below w0.heap.size w0 w' := by
  have HL := Lib.hid hl
  have HO := Lib.hid ho
  have HR := Lib.hid hr
  have hlt := h.lt
  have hb0 := Nat.le_trans h.base (Nat.le_of_lt hlt)
  have hS := h.alloc (.cells #[.int .i64 0, .int .i64 0] 25)
  have hR := heap_alloc_new w (.cells #[.int .i64 0, .int .i64 0] 25)
  have hsz : w.heap.size < (w.alloc (.cells #[.int .i64 0, .int .i64 0] 25)).heap.size := by simp
  have HS := Lib.hid hS
  have HRB := Lib.hid hR
  clear hl ho hr h hS hR
  go_enter Try.func112, Try.ntmps112
  go_upto_region 1 with (fail)
  generalize w.alloc (.cells #[.int .i64 0, .int .i64 0] 25) = wA at *
  generalize hr : w.heap.size = r at *
  clear hr
  go_wp2_with fail
  refine (srcPick 200 w0 _ b a n c p z xs (by omega) (by omega) (by omega) HL.out HO.out HR.out HS.out).mono ?_
  rintro e w1 ⟨v1, p1, z1, rfl, hv0, hv1, hp1, hs1, hu1⟩
  have HR1 := Lib.hid ((hu1.blk r hsz (by omega)).trans HRB.out)
  have HS1 := Lib.hid (hs1.alloc (.cells #[.int .i64 (100 * v1), .int .i64 0] 25))
  have hr1 : r < w1.heap.size := Nat.lt_of_lt_of_le hsz hu1.size
  have hb1 : b < w1.heap.size := hs1.lt
  have HE1 := Lib.hid (heap_alloc_new w1 (.cells #[.int .i64 (100 * v1), .int .i64 0] 25))
  have HR1' : Hid ((w1.alloc (.cells #[.int .i64 (100 * v1), .int .i64 0] 25)).heap[r]? = _) := Lib.hid ((Below.heap_alloc w1 _ r hr1).trans HR1.out)
  have hsz1 : w1.heap.size < (w1.alloc (.cells #[.int .i64 (100 * v1), .int .i64 0] 25)).heap.size := by simp
  clear hs1 hu1
  go_wp2_with fail
  generalize w1.alloc (.cells #[.int .i64 (100 * v1), .int .i64 0] 25) = wB at *
  generalize hg : w1.heap.size = g at *
  clear hg
  refine (srcPick 60 w0 _ b a n c p1 z1 xs (by omega) (by omega) (by omega) HL.out HO.out HR.out HS1.out).mono ?_
  rintro e w2 ⟨v2, p2, z2, rfl, hv2, hv3, hp2, hs2, hu2⟩
  have hE2 := (hu2.blk g hsz1 (by omega)).trans HE1.out
  have hR2 := (hu2.blk r (by omega) (by omega)).trans HR1'.out
  have c1 : w2.cell? ⟨g, 1, none⟩ = some (.int .i64 0) := (blk_cell hE2 1).trans rfl
  have f1 := blk_free hE2 1
  have hbg : w0.heap.size ≤ g := by omega
  have HS2 := Lib.hid (hs2.set hbg (by omega) 1 (.int .i64 (100 * (1 + v2))))
  have HE2 := Lib.hid (blk_set hE2 1 (.int .i64 (100 * (1 + v2))))
  have HR2 : Hid ((w2.setCell ⟨g, 1, none⟩ (.int .i64 (100 * (1 + v2)))).heap[r]? = _) := Lib.hid ((Below.heap_setCell _ _ _ _ (by show r ≠ g; omega)).trans hR2)
  have hg2 : g < (w2.setCell ⟨g, 1, none⟩ (.int .i64 (100 * (1 + v2)))).heap.size := lt_of_block HE2.out
  clear hs2 hu2 hE2 hR2
  go_wp2_with fail
  generalize w2.setCell ⟨g, 1, none⟩ (.int .i64 (100 * (1 + v2))) = w3 at *
  clear c1 f1
  refine (srcOne 3 w0 _ b a n c p2 z2 xs (by omega) (by omega) (by omega) HL.out HO.out HR.out HS2.out).mono ?_
  rintro e w4 ⟨B, p3, z3, rfl, hp3, hs4, hu4⟩
  have hE4 := (hu4.blk g hg2 (by omega)).trans HE2.out
  have hR4 := (hu4.blk r (by omega) (by omega)).trans HR2.out
  have HS4 := Lib.hid hs4
  clear hs4 hu4
  cases B with
  | false =>
    have d0 : w4.cell? ⟨g, 0, none⟩ = some (.int .i64 (100 * v1)) := (blk_cell hE4 0).trans rfl
    have d1 : w4.cell? ⟨g, 1, none⟩ = some (.int .i64 (100 * (1 + v2))) := (blk_cell hE4 1).trans rfl
    have hown := ownEph hR4
    have hbr : w0.heap.size ≤ r := hb0
    have hrs : r ≤ w4.heap.size := Nat.le_of_lt (lt_of_block hR4)
    have HK : Hid (EphOk ⟨100 * v1, 100 * (1 + v2)⟩) := Lib.hid ⟨by show 0 ≤ 100 * v1; omega, by show 100 * v1 ≤ 100000; omega, by show 1 ≤ 100 * (1 + v2); omega, by show 100 * (1 + v2) ≤ 10000; omega⟩
    obtain ⟨nv, hnv⟩ : ∃ nv : Eph, nv = ⟨100 * v1, 100 * (1 + v2)⟩ := ⟨_, rfl⟩
    have HY : Hid (([⟨0, 0⟩] : List Eph).set 0 ⟨100 * v1, 100 * (1 + v2)⟩ = [nv]) := Lib.hid (by rw [hnv]; rfl)
    rw [← hnv] at HK
    have HNV := Lib.hid hnv
    clear hnv hE4 hR4
    go_wp2_with (with_reducible refine wpl_set Eph.len (by decide) _ rfl 25 (.tmp 2) (.tmp 19) rfl r 0 rfl _ rfl ⟨100 * v1, 100 * (1 + v2)⟩ rfl ?s1 (Eph.one _) r 25 1 1 0 [⟨0, 0⟩] hown (by decide) rfl r (Nat.le_refl _) hrs [nv] HY ?_)
    case s1 => kernel_rfl
    intro w5 hown5 hb5 _
    obtain ⟨x0, x1⟩ := Eph.cells1 hown5
    have HE := Lib.hid (HS4.out.ok.trans (hb5.mono hbr))
    clear hown5 hb5 d0 d1
    go_wp2_with fail
    refine bodyPost_ret (v := .agg #[.int .i64 nv.epoch, .int .i64 nv.per]) ((results_cell1 rfl _ _ _).trans ?r1) rfl ?_
    case r1 => go_simp
    exact ⟨nv, rfl, HK.out, HE.out⟩
  | true =>
    have hgB : g < w4.heap.size := lt_of_block hE4
    have hrB : r < w4.heap.size := lt_of_block hR4
    have HE4 := Lib.hid hE4
    have HR4 := Lib.hid hR4
    clear hE4 hR4
    go_wp2_with fail
    refine (srcPick 9000 w0 _ b a n c p3 z3 xs (by omega) (by omega) (by omega) HL.out HO.out HR.out HS4.out).mono ?_
    rintro e w6 ⟨v3, p4, z4, rfl, hv4, hv5, hp4, hs6, hu6⟩
    have hE6 := (hu6.blk g hgB (by omega)).trans HE4.out
    have hR6 := (hu6.blk r hrB (by omega)).trans HR4.out
    have d0 : w6.cell? ⟨g, 0, none⟩ = some (.int .i64 (100 * v1)) := (blk_cell hE6 0).trans rfl
    have c1 : w6.cell? ⟨g, 1, none⟩ = some (.int .i64 (100 * (1 + v2))) := (blk_cell hE6 1).trans rfl
    have f1 := blk_free hE6 1
    have HS6 := Lib.hid (hs6.set hbg (by omega) 1 (.int .i64 (1 + v3)))
    have hE7 := blk_set hE6 1 (.int .i64 (1 + v3))
    have hR7 : (w6.setCell ⟨g, 1, none⟩ (.int .i64 (1 + v3))).heap[r]? = _ := (Below.heap_setCell _ _ _ _ (by show r ≠ g; omega)).trans hR6
    have hown := ownEph hR7
    have hbr : w0.heap.size ≤ r := hb0
    have hrs : r ≤ (w6.setCell ⟨g, 1, none⟩ (.int .i64 (1 + v3))).heap.size := Nat.le_of_lt (lt_of_block hR7)
    have e0 : (w6.setCell ⟨g, 1, none⟩ (.int .i64 (1 + v3))).cell? ⟨g, 0, none⟩ = some (.int .i64 (100 * v1)) := (blk_cell hE7 0).trans rfl
    have e1 : (w6.setCell ⟨g, 1, none⟩ (.int .i64 (1 + v3))).cell? ⟨g, 1, none⟩ = some (.int .i64 (1 + v3)) := (blk_cell hE7 1).trans rfl
    have HK : Hid (EphOk ⟨100 * v1, 1 + v3⟩) := Lib.hid ⟨by show 0 ≤ 100 * v1; omega, by show 100 * v1 ≤ 100000; omega, by show 1 ≤ 1 + v3; omega, by show 1 + v3 ≤ 10000; omega⟩
    obtain ⟨nv, hnv⟩ : ∃ nv : Eph, nv = ⟨100 * v1, 1 + v3⟩ := ⟨_, rfl⟩
    have HY : Hid (([⟨0, 0⟩] : List Eph).set 0 ⟨100 * v1, 1 + v3⟩ = [nv]) := Lib.hid (by rw [hnv]; rfl)
    rw [← hnv] at HK
    clear hnv hs6 hu6 hE6 hR6 hE7 hR7 d0
    have HOWN := Lib.hid hown
    have HE0 := Lib.hid e0
    have HE1' := Lib.hid e1
    clear hown e0 e1
    go_upto_region 5 with (fail)
    generalize w6.setCell ⟨g, 1, none⟩ (.int .i64 (1 + v3)) = w7 at *
    have e0 := HE0.out
    have e1 := HE1'.out
    have hown := HOWN.out
    clear c1 f1
    go_wp2_with (with_reducible refine wpl_set Eph.len (by decide) _ rfl 25 (.tmp 2) (.tmp 19) rfl r 0 rfl _ rfl ⟨100 * v1, 1 + v3⟩ rfl ?s1 (Eph.one _) r 25 1 1 0 [⟨0, 0⟩] hown (by decide) rfl r (Nat.le_refl _) hrs [nv] HY ?_)
    case s1 => kernel_rfl
    intro w8 hown8 hb8 _
    obtain ⟨x0, x1⟩ := Eph.cells1 hown8
    have HE := Lib.hid (HS6.out.ok.trans (hb8.mono hbr))
    clear hown8 hb8 e0 e1
    go_wp2_with fail
    refine bodyPost_ret (v := .agg #[.int .i64 nv.epoch, .int .i64 nv.per]) ((results_cell1 rfl _ _ _).trans ?r1) rfl ?_
    case r1 => go_simp
    exact ⟨nv, rfl, HK.out, HE.out⟩
end Go.Proofs.Ytloggipjmaiegaa
