/-
  A new volume in its place: the program's function.
-/
import Derived.Test.YtgdcefdncjmnkaaStoP
import Derived.Test.YtgdcefdncjmnkaaInsV
import Derived.Deep.RegionWith
namespace Go.Proofs.Ytgdcefdncjmnkaa
open Go.RowKit
set_option maxRecDepth 100000
def InsPost (w : World) (n : Nat) (ys : List Vol) (e : Ending) (w' : World) : Prop := ∃ a' c', e = .returned (.slice a' (n + 1) c') ∧ Ow Vol.enc 5 w' w.heap.size 31 (.slice a' (n + 1) c') (n + 1) ys ∧ Below w.heap.size w w'
theorem insA (vs : List Vol) (x : Vol) (j n c4 : Nat) (a4 : Option Addr) (w w3 w4 : World) (hw : w.heap.size ≤ w3.heap.size) (hb3 : Below w.heap.size w w3) (hj : j ≤ n) (hn : n ≤ 40) (ho : Ow Vol.enc 5 w4 w3.heap.size 31 (.slice a4 n c4) n vs) (hb : Below w3.heap.size w3 w4) :
    Calls Try.prog 45 #[.slice a4 n c4, .int .i64 j, .slice (some ⟨w4.heap.size, 0, none⟩) 1 1] (w4.alloc (.cells #[.string x.name, .int .i64 x.frm, .int .i64 x.til, .int .i64 x.cnt, .int .i64 x.cop] 31)) (InsPost w n (vs.take j ++ x :: vs.drop j)) := by
  have hal : Below w4.heap.size w4 (w4.alloc (.cells #[.string x.name, .int .i64 x.frm, .int .i64 x.til, .int .i64 x.cnt, .int .i64 x.cop] 31)) := (Below.refl _ _).alloc (Nat.le_refl _) _
  refine (insertV_any vs x n c4 j w4.heap.size w.heap.size _ a4 ((ho.below hal).mono hw) hj (by omega) (heap_alloc_new w4 _) ?_ ?_).mono ?_
  · intro b hb' he
    have h1 := ho.lt b (by rw [hb']; rfl)
    omega
  · have h1 := hb.size; simp; omega
  · rintro e w5 ⟨a5, c5, rfl, ho5, hb5⟩
    exact ⟨a5, c5, rfl, ho5, hb3.trans ((hb.mono hw).trans ((hal.mono (by have h1 := hb.size; omega)).trans hb5))⟩
theorem insB (vs : List Vol) (x : Vol) (j n c4 : Nat) (a4 : Option Addr) (w w3 w4 : World) (hw : w.heap.size ≤ w3.heap.size) (hb3 : Below w.heap.size w w3) (hj : j ≤ n) (hn : n ≤ 40) (ho : Ow Vol.enc 5 w4 (w3.heap.size + 1) 31 (.slice a4 n c4) n vs) (hb : Below (w3.heap.size + 1) (w3.alloc (.cells #[.string x.name, .int .i64 x.frm, .int .i64 x.til, .int .i64 x.cnt, .int .i64 x.cop] 31)).drew w4) :
    Calls Try.prog 45 #[.slice a4 n c4, .int .i64 j, .slice (some ⟨w3.heap.size, 0, none⟩) 1 1] w4 (InsPost w n (vs.take j ++ x :: vs.drop j)) := by
  have hal : Below w3.heap.size w3 (w3.alloc (.cells #[.string x.name, .int .i64 x.frm, .int .i64 x.til, .int .i64 x.cnt, .int .i64 x.cop] 31)).drew := ((Below.refl _ _).alloc (Nat.le_refl _) _).drew
  have hcell : w4.heap[w3.heap.size]? = some (.cells #[.string x.name, .int .i64 x.frm, .int .i64 x.til, .int .i64 x.cnt, .int .i64 x.cop] 31 (0, 0)) := (hb.block w3.heap.size (by omega)).trans (heap_alloc_new w3 _)
  have hsz := hb.size
  simp at hsz
  refine (insertV_any vs x n c4 j w3.heap.size w.heap.size _ a4 (ho.mono (by omega)) hj (by omega) hcell ?_ ?_).mono ?_
  · intro b hb' he
    have h1 := ho.lt b (by rw [hb']; rfl)
    omega
  · omega
  · rintro e w5 ⟨a5, c5, rfl, ho5, hb5⟩
    exact ⟨a5, c5, rfl, ho5, hb3.trans ((hal.mono hw).trans ((hb.mono (by omega)).trans hb5))⟩
section
variable (vs : List Vol) (x : Vol) (k : Nat) (a : Option Addr) (n c : Nat) (w : World) (hn : n ≤ 40) (hl : vs.length = n) (hr : Rd Vol.enc 5 w a vs) (hs : SplitV vs x.name k)
include hn hl hr hs
set_option maxHeartbeats 4000000 in
theorem insertedV : Calls Try.prog 25 #[.slice a n c, .agg #[.string x.name, .int .i64 x.frm, .int .i64 x.til, .int .i64 x.cnt, .int .i64 x.cop], .func (.func 26) #[] #[]] w fun e w' => ∃ a' c', e = .returned (.slice a' (n + 1) c') ∧ Ow Vol.enc 5 w' w.heap.size 31 (.slice a' (n + 1) c') (n + 1) (vs.take k ++ x :: vs.drop k) ∧ Below w.heap.size w w' := by
  have HL := Lib.hid hl
  have HS := Lib.hid hs
  have hkn : k ≤ n := hl ▸ hs.1
  have hnew := At5.new w x 31
  have hb0 : Below w.heap.size w (w.alloc (.cells #[.string x.name, .int .i64 x.frm, .int .i64 x.til, .int .i64 x.cnt, .int .i64 x.cop] 31)) := (Below.refl _ _).alloc (Nat.le_refl _) _
  have HR := Lib.hid hr
  have hsz : (w.alloc (.cells #[.string x.name, .int .i64 x.frm, .int .i64 x.til, .int .i64 x.cnt, .int .i64 x.cop] 31)).heap.size = w.heap.size + 1 := by simp
  have HN := Lib.hid hnew
  have HB0 := Lib.hid hb0
  have HZ := Lib.hid hsz
  clear hl hr hs hnew hb0 hsz
  go_enter Try.func25, Try.ntmps25
  go_wp2_with fail
  obtain ⟨w0, hw0⟩ : ∃ w0, w.alloc (.cells #[.string x.name, .int .i64 x.frm, .int .i64 x.til, .int .i64 x.cnt, .int .i64 x.cop] 31) = w0 := ⟨_, rfl⟩
  rw [hw0] at HN HB0 HZ ⊢
  clear hw0
  go_loopw [7] (fun i wr => ∃ j : Nat, j ≤ k ∧ i = .int .i64 j ∧ Below w0.heap.size w0 wr) (fun i _ => k - (intOf i).toNat)
  case atStart => exact ⟨0, Nat.zero_le _, rfl, Below.refl _ _⟩
  case round =>
    obtain ⟨j, hj, rfl, hb⟩ := hrel
    have hrr := (HR.out.below HB0.out).below (hb.mono (Nat.le_refl _))
    obtain ⟨_, b0, b1, b2, b3, b4⟩ := HN.out.below hb
    simp only [Nat.zero_add] at b1 b2 b3 b4
    have hw0s : w.heap.size < wr.heap.size := by have h1 := HZ.out; have h2 := hb.size; omega
    have n0 := cls_cell (w0 := wr) hw0s b0
    have n1 := cls_cell (w0 := wr) hw0s b1
    have n2 := cls_cell (w0 := wr) hw0s b2
    have n3 := cls_cell (w0 := wr) hw0s b3
    have n4 := cls_cell (w0 := wr) hw0s b4
    by_cases hlt : j < k
    · obtain ⟨y, hy, htk⟩ := take_snoc' vs j (by rw [HL.out]; omega)
      obtain ⟨b, o, rfl, hbl, hc⟩ := hrr j y hy
      have m0 := cls_cell (w0 := wr) (B := wr.heap.size) (p := ⟨b, _, none⟩) hbl (hc 0 _ rfl)
      have m1 := cls_cell (w0 := wr) (B := wr.heap.size) (p := ⟨b, _, none⟩) hbl (hc 1 _ rfl)
      have m2 := cls_cell (w0 := wr) (B := wr.heap.size) (p := ⟨b, _, none⟩) hbl (hc 2 _ rfl)
      have m3 := cls_cell (w0 := wr) (B := wr.heap.size) (p := ⟨b, _, none⟩) hbl (hc 3 _ rfl)
      have m4 := cls_cell (w0 := wr) (B := wr.heap.size) (p := ⟨b, _, none⟩) hbl (hc 4 _ rfl)
      rw [Nat.add_zero] at m0
      have hlb := split_less HS.out hy hlt
      have d1 : decide (j < n) = true := by simp; omega
      have HBB := Lib.hid hb
      clear hc htk hy hrr hb
      go_wp2_with fail
      refine wp_region_cls wr (B := wr.heap.size) (by kernel_rfl) (by kernel_rfl) (Below.refl _ _) ?_
      repeat (go_big_quiet_step ((go_at_call 26; exact cls_call (Nat.le_refl _) (volumeName_any _ _ _ _ _ _))))
      refine wpQuiet_nil ?_
      intro _ hw'
      obtain ⟨uq, hw''⟩ := hw'
      subst hw''
      have hb3 := HBB.out.trans (uq.ok.mono HBB.out.size)
      generalize uq.w = w3 at hb3
      clear n0 n1 n2 n3 n4 m0 m1 m2 m3 m4 d1 b0 b1 b2 b3 b4
      go_wp2_with fail
      go_roundw
      case rel => exact ⟨j + 1, by omega, by go_num, hb3⟩
      case measure => simp [intOf]; omega
    · obtain rfl : j = k := by omega
      have HBB := Lib.hid hb
      by_cases hkk : j < n
      · obtain ⟨y, hy, htk⟩ := take_snoc' vs j (by rw [HL.out]; omega)
        obtain ⟨b, o, hab, hbl, hc⟩ := hrr j y hy
        have m0 := cls_cell (w0 := wr) (B := wr.heap.size) (p := ⟨b, _, none⟩) hbl (hc 0 _ rfl)
        have m1 := cls_cell (w0 := wr) (B := wr.heap.size) (p := ⟨b, _, none⟩) hbl (hc 1 _ rfl)
        have m2 := cls_cell (w0 := wr) (B := wr.heap.size) (p := ⟨b, _, none⟩) hbl (hc 2 _ rfl)
        have m3 := cls_cell (w0 := wr) (B := wr.heap.size) (p := ⟨b, _, none⟩) hbl (hc 3 _ rfl)
        have m4 := cls_cell (w0 := wr) (B := wr.heap.size) (p := ⟨b, _, none⟩) hbl (hc 4 _ rfl)
        rw [Nat.add_zero] at m0
        have hlb := split_more HS.out hy (Nat.le_refl j)
        have d1 : decide (j < n) = true := by simp; omega
        subst hab
        clear hc htk hy hrr hb
        go_wp2_with fail
        refine wp_region_cls wr (B := wr.heap.size) (by kernel_rfl) (by kernel_rfl) (Below.refl _ _) ?_
        repeat (go_big_quiet_step ((go_at_call 26; exact cls_call (Nat.le_refl _) (volumeName_any _ _ _ _ _ _))))
        refine wpQuiet_nil ?_
        intro _ hw'
        obtain ⟨uq, hw''⟩ := hw'
        subst hw''
        have hb3 := HBB.out.trans (uq.ok.mono HBB.out.size)
        generalize uq.w = w3 at hb3
        clear n0 n1 n2 n3 n4 m0 m1 m2 m3 m4 hlb d1 b0 b1 b2 b3 b4
        -- the tail
        have hrr := (HR.out.below HB0.out).below hb3
        obtain ⟨_, b0, b1, b2, b3, b4⟩ := HN.out.below hb3
        simp only [Nat.zero_add] at b1 b2 b3 b4
        have hw0s : w.heap.size ≤ w3.heap.size := by have h1 := HZ.out; have h2 := hb3.size; omega
        have HRR : Hid (∀ W', Below w3.heap.size w3 W' → Rd Vol.enc 5 W' (some ⟨b, o, none⟩) vs) := Lib.hid fun W' hW => hrr.below hW
        have HCC : Hid (∀ W', Below w3.heap.size w3 W' → At5 W' w.heap.size 0 x) := Lib.hid fun W' hW => (HN.out.below hb3).below hW
        have HB3 := Lib.hid (HB0.out.trans (hb3.mono HB0.out.size))
        have HWS := Lib.hid hw0s
        have HDR : Hid (Below w3.heap.size w3 w3.drew) := Lib.hid (Below.refl _ _).drew
        have HAL : Hid (Below w3.heap.size w3 (w3.alloc (.cells #[.string x.name, .int .i64 x.frm, .int .i64 x.til, .int .i64 x.cnt, .int .i64 x.cop] 31)).drew) := Lib.hid (((Below.refl _ _).alloc (Nat.le_refl _) _).drew)
        clear hrr hb3 hw0s
        go_wp2_with fail
        go_region_with (first
          | (go_at_call 46; (with_reducible refine (copyOfVol_any vs (some ⟨b, o, none⟩) n c w3.drew (by omega) HL.out (HRR.out _ HDR.out)).mono ?_); rintro e w4 ⟨a4, c4, rfl, ho4, hb4⟩; have HO4 := Lib.hid (show Ow Vol.enc 5 w4 w3.heap.size 31 (.slice a4 n c4) n vs from ho4); have HB4 := Lib.hid (HDR.out.trans hb4); obtain ⟨_, e0, e1, e2, e3, e4⟩ := HCC.out w4 HB4.out; clear ho4 hb4; simp only [Nat.zero_add] at e1 e2 e3 e4)
          | (go_at_call 46; (with_reducible refine (copyOfVol_any vs (some ⟨b, o, none⟩) n c (w3.alloc (.cells #[.string x.name, .int .i64 x.frm, .int .i64 x.til, .int .i64 x.cnt, .int .i64 x.cop] 31)).drew (by omega) HL.out (HRR.out _ HAL.out)).mono ?_); rintro e w4 ⟨a4, c4, rfl, ho4, hb4⟩; rw [show (w3.alloc (.cells #[.string x.name, .int .i64 x.frm, .int .i64 x.til, .int .i64 x.cnt, .int .i64 x.cop] 31)).drew.heap.size = w3.heap.size + 1 by simp] at ho4 hb4; have HO4 := Lib.hid ho4; have HB4 := Lib.hid hb4; clear ho4 hb4)
          | (go_at_call 45; (with_reducible refine (insA vs x j n c4 a4 w w3 w4 HWS.out HB3.out (by omega) hn HO4.out HB4.out).mono ?_); rintro e w5 ⟨a5, c5, rfl, ho5, hb5⟩; have HO5 := Lib.hid ho5; have HB5 := Lib.hid hb5; clear ho5 hb5)
          | (go_at_call 45; (with_reducible refine (insB vs x j n c4 a4 w w3 w4 HWS.out HB3.out (by omega) hn HO4.out HB4.out).mono ?_); rintro e w5 ⟨a5, c5, rfl, ho5, hb5⟩; have HO5 := Lib.hid ho5; have HB5 := Lib.hid hb5; clear ho5 hb5))
        all_goals
          go_wp2_with fail
          go_ret
          exact ⟨a5, c5, rfl, HO5.out, HB5.out⟩
      · have d1 : decide (j < n) = false := by simp; omega
        clear hrr hb
        go_wp2_with fail
        refine wp_region_cls wr (B := wr.heap.size) (by kernel_rfl) (by kernel_rfl) (Below.refl _ _) ?_
        repeat (go_big_quiet_step ((go_at_call 26; exact cls_call (Nat.le_refl _) (volumeName_any _ _ _ _ _ _))))
        refine wpQuiet_nil ?_
        intro _ hw'
        obtain ⟨uq, hw''⟩ := hw'
        subst hw''
        have hb3 := HBB.out.trans (uq.ok.mono HBB.out.size)
        generalize uq.w = w3 at hb3
        clear n0 n1 n2 n3 n4 d1 b0 b1 b2 b3 b4
        -- the tail
        have hrr := (HR.out.below HB0.out).below hb3
        obtain ⟨_, b0, b1, b2, b3, b4⟩ := HN.out.below hb3
        simp only [Nat.zero_add] at b1 b2 b3 b4
        have hw0s : w.heap.size ≤ w3.heap.size := by have h1 := HZ.out; have h2 := hb3.size; omega
        have HRR : Hid (∀ W', Below w3.heap.size w3 W' → Rd Vol.enc 5 W' a vs) := Lib.hid fun W' hW => hrr.below hW
        have HCC : Hid (∀ W', Below w3.heap.size w3 W' → At5 W' w.heap.size 0 x) := Lib.hid fun W' hW => (HN.out.below hb3).below hW
        have HB3 := Lib.hid (HB0.out.trans (hb3.mono HB0.out.size))
        have HWS := Lib.hid hw0s
        have HDR : Hid (Below w3.heap.size w3 w3.drew) := Lib.hid (Below.refl _ _).drew
        have HAL : Hid (Below w3.heap.size w3 (w3.alloc (.cells #[.string x.name, .int .i64 x.frm, .int .i64 x.til, .int .i64 x.cnt, .int .i64 x.cop] 31)).drew) := Lib.hid (((Below.refl _ _).alloc (Nat.le_refl _) _).drew)
        clear hrr hb3 hw0s
        go_wp2_with fail
        go_region_with (first
          | (go_at_call 46; (with_reducible refine (copyOfVol_any vs a n c w3.drew (by omega) HL.out (HRR.out _ HDR.out)).mono ?_); rintro e w4 ⟨a4, c4, rfl, ho4, hb4⟩; have HO4 := Lib.hid (show Ow Vol.enc 5 w4 w3.heap.size 31 (.slice a4 n c4) n vs from ho4); have HB4 := Lib.hid (HDR.out.trans hb4); obtain ⟨_, e0, e1, e2, e3, e4⟩ := HCC.out w4 HB4.out; clear ho4 hb4; simp only [Nat.zero_add] at e1 e2 e3 e4)
          | (go_at_call 46; (with_reducible refine (copyOfVol_any vs a n c (w3.alloc (.cells #[.string x.name, .int .i64 x.frm, .int .i64 x.til, .int .i64 x.cnt, .int .i64 x.cop] 31)).drew (by omega) HL.out (HRR.out _ HAL.out)).mono ?_); rintro e w4 ⟨a4, c4, rfl, ho4, hb4⟩; rw [show (w3.alloc (.cells #[.string x.name, .int .i64 x.frm, .int .i64 x.til, .int .i64 x.cnt, .int .i64 x.cop] 31)).drew.heap.size = w3.heap.size + 1 by simp] at ho4 hb4; have HO4 := Lib.hid ho4; have HB4 := Lib.hid hb4; clear ho4 hb4)
          | (go_at_call 45; (with_reducible refine (insA vs x j n c4 a4 w w3 w4 HWS.out HB3.out (by omega) hn HO4.out HB4.out).mono ?_); rintro e w5 ⟨a5, c5, rfl, ho5, hb5⟩; have HO5 := Lib.hid ho5; have HB5 := Lib.hid hb5; clear ho5 hb5)
          | (go_at_call 45; (with_reducible refine (insB vs x j n c4 a4 w w3 w4 HWS.out HB3.out (by omega) hn HO4.out HB4.out).mono ?_); rintro e w5 ⟨a5, c5, rfl, ho5, hb5⟩; have HO5 := Lib.hid ho5; have HB5 := Lib.hid hb5; clear ho5 hb5))
        all_goals
          go_wp2_with fail
          go_ret
          exact ⟨a5, c5, rfl, HO5.out, HB5.out⟩
end
end Go.Proofs.Ytgdcefdncjmnkaa
