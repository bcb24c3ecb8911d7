/-
  The library's merge in place at numbers: the walk.
-/
import Derived.Test.YthmiahekijeehaaGreatSiW
import Derived.Deep.DeepCutAuto
namespace Go.Proofs.YthmiahekijeehaaGreat
open Go.RowKit
set_option maxRecDepth 100000
set_option linter.unusedVariables false
set_option linter.unusedSimpArgs false
variable {P0 : Int → Prop} {key : Ix P0 → Int}
theorem get_U {A U V B : List (Ix P0)} {a i : Nat} (ha : A.length = a) (hi : i < U.length) : (A ++ (U ++ (V ++ B)))[a + i]? = U[i]? := mid_get ha hi
theorem get_V {A U V B : List (Ix P0)} {a m i : Nat} (ha : A.length = a) (hm : a + U.length = m) (hi : i < V.length) : (A ++ (U ++ (V ++ B)))[m + i]? = V[i]? := by
  have e : A ++ (U ++ (V ++ B)) = (A ++ U) ++ (V ++ B) := by simp
  rw [e]; exact mid_get (by rw [List.length_append]; omega) hi
/-- the questions of the searches -/
def fB1 (key : Ix P0 → Int) (V : List (Ix P0)) (u : Ix P0) (h : Nat) : Bool := match V[h]? with
  | some y => decide (¬ (key y) < (key u))
  | none => true
def fB2 (key : Ix P0 → Int) (U : List (Ix P0)) (v : Ix P0) (h : Nat) : Bool := match U[h]? with
  | some x => decide ((key v) < (key x))
  | none => true
def fB3 (key : Ix P0 → Int) (U V : List (Ix P0)) (a mid c : Nat) : Bool := match U[c - a]?, V[mid - 1 - c]? with
  | some x, some y => decide ((key y) < (key x))
  | _, _ => true
theorem fB1_at {V : List (Ix P0)} {u y : Ix P0} {h : Nat} (hy : V[h]? = some y) : fB1 key V u h = decide (¬ (key y) < (key u)) := by unfold fB1; rw [hy]
theorem fB2_at {U : List (Ix P0)} {v x : Ix P0} {h : Nat} (hx : U[h]? = some x) : fB2 key U v h = decide ((key v) < (key x)) := by unfold fB2; rw [hx]
theorem fB3_at {U V : List (Ix P0)} {a mid c : Nat} {x y : Ix P0} (hx : U[c - a]? = some x) (hy : V[mid - 1 - c]? = some y) : fB3 key U V a mid c = decide ((key y) < (key x)) := by unfold fB3; rw [hx, hy]
theorem sea_one {u : Ix P0} {V : List (Ix P0)} {t q : Nat} (hq : V.length = q) (h : SeaQ (fB1 key V u) 0 q t t) (hm : MrgQ key (slR key) [u] V) : SyD (slR key) ([u] ++ V) (V.take t ++ u :: V.drop t) := by
  have ht := h.c
  refine merge_one (keyR key) hm (by omega) (fun j y hj hy => ?_) fun ht2 y hy => ?_
  · rcases h.lo_ with h0 | h0
    · omega
    · have e := List.getElem?_eq_getElem (l := V) (i := t - 1) (by omega)
      rw [fB1_at e] at h0
      have h1 := of_decide_eq_false h0
      have h2 := pw_key (keyR key) hm.v (show j ≤ t - 1 by omega) hy e
      omega
  · rcases h.hi_ with h0 | h0
    · omega
    · rw [fB1_at hy] at h0
      exact of_decide_eq_true h0
theorem sea_last {v : Ix P0} {U : List (Ix P0)} {s q : Nat} (hq : U.length = q) (h : SeaQ (fB2 key U v) 0 q s s) (hm : MrgQ key (slR key) U [v]) : SyD (slR key) (U ++ [v]) (U.take s ++ v :: U.drop s) := by
  have ht := h.c
  refine merge_last (keyR key) hm (by omega) (fun h1 x hx => ?_) fun j x hj hx => ?_
  · rcases h.lo_ with h0 | h0
    · omega
    · rw [fB2_at hx] at h0
      exact of_decide_eq_false h0
  · have hjl := (List.getElem?_eq_some_iff.1 hx).1
    rcases h.hi_ with h0 | h0
    · omega
    · have e := List.getElem?_eq_getElem (l := U) (i := s) (by omega)
      rw [fB2_at e] at h0
      have h1 := of_decide_eq_true h0
      have h2 := pw_key (keyR key) hm.u hj e hx
      omega
theorem sea_cut {U V : List (Ix P0)} {a m b mid s0 r0 s : Nat} (hU : a + U.length = m) (hV : m + V.length = b) (hmid : mid = (a + b) / 2) (h2 : 2 ≤ U.length) (h3 : 2 ≤ V.length) (hc : (mid < m ∧ s0 + b = mid + m ∧ r0 = mid) ∨ (m ≤ mid ∧ s0 = a ∧ r0 = m)) (h : SeaQ (fB3 key U V a mid) s0 r0 s s) : CutQ key U V (s - a) (mid - s) := by
  have ha := h.a
  have hb := h.c
  refine ⟨by omega, by omega, fun h4 h5 x y hx hy => ?_, fun h4 h5 x y hx hy => ?_⟩
  · rcases h.hi_ with h0 | h0
    · omega
    · rw [fB3_at hx (by rw [show mid - 1 - s = mid - s - 1 by omega]; exact hy)] at h0
      exact of_decide_eq_true h0
  · rcases h.lo_ with h0 | h0
    · omega
    · rw [fB3_at (c := s - 1) (by rw [show s - 1 - a = s - a - 1 by omega]; exact hx) (by rw [show mid - 1 - (s - 1) = mid - s by omega]; exact hy)] at h0
      exact of_decide_eq_false h0
set_option maxHeartbeats 8000000 in
theorem symW (key : Ix P0 → Int) (gb : Nat) : ∀ (N : Nat) (A U V B : List (Ix P0)) (g n c B0 a m b : Nat) (w : World), CmpF key gb B0 w → U.length + V.length ≤ N → B0 ≤ w.heap.size → B0 ≤ g → n ≤ 100000 → A.length = a → a + U.length = m → m + V.length = b → 1 ≤ U.length → 1 ≤ V.length → MrgQ key (slR key) U V → Ow eF 1 w B0 2 (.slice (some ⟨g, 0, none⟩) n c) n (A ++ (U ++ (V ++ B))) →
    Calls Tryz.prog 101 #[.slice (some ⟨g, 0, none⟩) n c, .int .i64 a, .int .i64 m, .int .i64 b, .func (.func 95) #[] #[.pointer (some ⟨gb, 0, none⟩)]] w fun e w' => e = .returned (.tuple #[]) ∧ ∃ W, SyD (slR key) (U ++ V) W ∧ Ow eF 1 w' B0 2 (.slice (some ⟨g, 0, none⟩) n c) n (A ++ (W ++ B)) ∧ Below B0 w w' := by
  intro N
  induction N with
  | zero => intro A U V B g n c B0 a m b w _ h; intros; omega
  | succ N ih =>
    intro A U V B g n c B0 a m b w hc hN hB0 hg0 hn ha hm hb h1 h2 hM ho
    have IH := Lib.hid ih
    have HC := Lib.hid hc
    clear ih hc
    have hlen := ho.len eF_len (by decide)
    simp only [List.length_append] at hlen
    have hbn : b ≤ n := by omega
    obtain ⟨lu, hlu⟩ : ∃ z, U.length = z := ⟨_, rfl⟩
    obtain ⟨lv, hlv⟩ : ∃ z, V.length = z := ⟨_, rfl⟩
    have ham : a + lu = m := by omega
    have hmb : m + lv = b := by omega
    have hu1 : 1 ≤ lu := by omega
    have hv1 : 1 ≤ lv := by omega
    have hNN : lu + lv ≤ N + 1 := by omega
    have HA := Lib.hid ha
    have HM := Lib.hid hm
    have HBV := Lib.hid hb
    have HLU := Lib.hid hlu
    have HLV := Lib.hid hlv
    have HQ := Lib.hid hM
    have HO := Lib.hid ho
    have HB1 : Hid (Below B0 w w) := Lib.hid (Below.refl _ _)
    have iu : IntKind.i64.wrap ((m : Int) - (a : Int)) = (lu : Int) := by rw [show (m : Int) - (a : Int) = (lu : Int) by omega]; exact IntWalk.i64_in _ (by omega)
    have iv : IntKind.i64.wrap ((b : Int) - (m : Int)) = (lv : Int) := by rw [show (b : Int) - (m : Int) = (lv : Int) by omega]; exact IntWalk.i64_in _ (by omega)
    clear ha hm hb h1 h2 hM ho hN hlen hlu hlv
    by_cases hu : lu = 1
    · have du : ((lu : Int) == 1) = true := beq_iff_eq.2 (by omega)
      have dun : (lu == 1) = true := beq_iff_eq.2 hu
      obtain ⟨u, hU⟩ : ∃ u, U = [u] := List.length_eq_one_iff.1 (by rw [HLU.out]; exact hu)
      subst hU
      go_enter Tryz.func101, Tryz.ntmps101
      go_wp2_with fail
      go_loopw [10, 11] (fun vi vj wr => ∃ lo hi : Nat, vi = .int .i64 ((m + lo : Nat) : Int) ∧ vj = .int .i64 ((m + hi : Nat) : Int) ∧ Hid (SeaQ (fB1 key V u) 0 lv lo hi) ∧ Hid (Ow eF 1 wr B0 2 (.slice (some ⟨g, 0, none⟩) n c) n (A ++ ([u] ++ (V ++ B)))) ∧ Hid (Below B0 w wr)) (fun vi vj _ => (intOf vj).toNat - (intOf vi).toNat)
      case atStart => exact ⟨0, lv, by rw [Nat.add_zero], by rw [hmb], Lib.hid (SeaQ.first _ (Nat.zero_le _)), HO, HB1⟩
      case round =>
        obtain ⟨lo, hi, rfl, rfl, HS1, HOk, HBk⟩ := hrel
        obtain ⟨wq, hwq⟩ : ∃ wx, wx = wr := ⟨_, rfl⟩
        subst hwq
        obtain ⟨I, hI⟩ : ∃ z, m + lo = z := ⟨_, rfl⟩
        obtain ⟨J, hJ⟩ : ∃ z, m + hi = z := ⟨_, rfl⟩
        rw [hI, hJ]
        have hlh := HS1.out.b
        have hhl := HS1.out.c
        by_cases hlt : I < J
        · obtain ⟨h, hh⟩ : ∃ z, (lo + hi) / 2 = z := ⟨_, rfl⟩
          obtain ⟨H, hH⟩ : ∃ z, m + h = z := ⟨_, rfl⟩
          have hh1 : lo ≤ h := by omega
          have hh2 : h < hi := by omega
          have dlt : decide ((I : Int) < (J : Int)) = true := decide_eq_true (by omega)
          have dltn : decide (I < J) = true := decide_eq_true (by omega)
          have iwH : IntKind.i64.wrap ((I : Int) + (J : Int)) = (I : Int) + (J : Int) := IntWalk.i64_in _ (by omega)
          have uwH : IntKind.u64.wrap ((I : Int) + (J : Int)) = (I : Int) + (J : Int) := by rw [IntKind.wrap_u64]; omega
          have hwH : IntKind.i64.wrap (((I : Int) + (J : Int)) / 2) = (H : Int) := by rw [show ((I : Int) + (J : Int)) / 2 = (H : Int) by omega]; exact IntWalk.i64_in _ (by omega)
          obtain ⟨y, hy⟩ : ∃ z, V[h]? = some z := ⟨_, List.getElem?_eq_getElem (by rw [HLV.out]; omega)⟩
          have HY := Lib.hid hy
          have HPY : Hid ((A ++ ([u] ++ (V ++ B)))[H]? = some y) := Lib.hid (by rw [← hH, get_V HA.out HM.out (by rw [HLV.out]; omega)]; exact hy)
          have HPU : Hid ((A ++ ([u] ++ (V ++ B)))[a]? = some u) := Lib.hid (by have h9 := get_U (A := A) (U := [u]) (V := V) (B := B) (i := 0) HA.out (by simp); rw [Nat.add_zero] at h9; rw [h9]; rfl)
          clear hy
          by_cases hkk : (key y) < (key u)
          · have HN1 : Hid (SeaQ (fB1 key V u) 0 lv (h + 1) hi) := Lib.hid (HS1.out.up hh1 hh2 (by rw [fB1_at HY.out]; exact decide_eq_false (by omega)))
            have iz : IntKind.i64.wrap ((H : Int) + 1) = (H : Int) + 1 := IntWalk.i64_in _ (by omega)
            have hsz : B0 ≤ wq.heap.size := Nat.le_trans hB0 HBk.out.size
            have HS : Hid (∀ wz, Below wq.heap.size wq wz → wz.cell? ⟨g, H, none⟩ = some (.int .i64 y.1) ∧ wz.cell? ⟨g, a, none⟩ = some (.int .i64 u.1)) := Lib.hid fun wz hz => by
              have h9 := HOk.out.below hz
              exact ⟨h9.cellF HPY.out, h9.cellF HPU.out⟩
            have HD : Hid (Below wq.heap.size wq wq.drew) := Lib.hid (Below.refl _ _).drew
            obtain ⟨cz, hcz⟩ : ∃ z, cmpI (key y) (key u) = z := ⟨_, rfl⟩
            have dcz : decide (cz < 0) = true := by rw [← hcz]; unfold cmpI; rw [if_pos (by omega)]; rfl
            have HCM : Hid (∀ wz, Below wq.heap.size wq wz → Calls Tryz.prog 95 #[.int .i64 y.1, .int .i64 u.1, .pointer (some ⟨gb, 0, none⟩)] wz fun e w'' => e = .returned (.int .i64 cz) ∧ Below wz.heap.size wz w'') := Lib.hid fun wz hz => by
              have h9 := HC.out y u wz (HBk.out.trans (hz.mono hsz))
              rw [hcz] at h9
              exact h9
            clear hcz
            have jp0 : (0 : Int) ≤ (H : Nat) := by omega
            have jp1 : ((H : Nat) : Int) < n := by omega
            have jq0 : (0 : Int) ≤ (a : Nat) := by omega
            have jq1 : ((a : Nat) : Int) < n := by omega
            go_wp2_with fail
            go_region_held3 (fun wz : World => wz.cell? ⟨g, H, none⟩ = some (.int .i64 y.1) ∧ wz.cell? ⟨g, a, none⟩ = some (.int .i64 u.1)) (first | (go_keep; done) | exact HS.out _ HD.out | exact HS.out _ HDz.out | fail) (first | (go_at_call 95; (with_reducible refine (HCM.out _ HD.out).mono ?_); rintro e w1 ⟨rfl, hb1⟩; have HDz : Hid (Below wq.heap.size wq w1) := Lib.hid (HD.out.trans (hb1.mono HD.out.size)); clear hb1))
            have HOz := Lib.hid (HOk.out.below HDz.out)
            have HBz := Lib.hid (HBk.out.trans (HDz.out.mono hsz))
            clear HS HD HDz HCM dcz jp0 jp1 jq0 jq1 hsz
            clear hkk
            go_wp2_with fail
            go_roundw
            case rel => exact ⟨h + 1, hi, by rw [show m + (h + 1) = H + 1 by omega, Int.natCast_add, Int.natCast_one], by rw [hJ], HN1, HOz, HBz⟩
            case measure => simp [intOf]; omega
          · have HN1 : Hid (SeaQ (fB1 key V u) 0 lv lo h) := Lib.hid (HS1.out.dn hh1 hh2 (by rw [fB1_at HY.out]; exact decide_eq_true hkk))
            have hsz : B0 ≤ wq.heap.size := Nat.le_trans hB0 HBk.out.size
            have HS : Hid (∀ wz, Below wq.heap.size wq wz → wz.cell? ⟨g, H, none⟩ = some (.int .i64 y.1) ∧ wz.cell? ⟨g, a, none⟩ = some (.int .i64 u.1)) := Lib.hid fun wz hz => by
              have h9 := HOk.out.below hz
              exact ⟨h9.cellF HPY.out, h9.cellF HPU.out⟩
            have HD : Hid (Below wq.heap.size wq wq.drew) := Lib.hid (Below.refl _ _).drew
            obtain ⟨cz, hcz⟩ : ∃ z, cmpI (key y) (key u) = z := ⟨_, rfl⟩
            have dcz : decide (cz < 0) = false := by rw [← hcz]; unfold cmpI; rw [if_neg (by omega)]; split <;> rfl
            have HCM : Hid (∀ wz, Below wq.heap.size wq wz → Calls Tryz.prog 95 #[.int .i64 y.1, .int .i64 u.1, .pointer (some ⟨gb, 0, none⟩)] wz fun e w'' => e = .returned (.int .i64 cz) ∧ Below wz.heap.size wz w'') := Lib.hid fun wz hz => by
              have h9 := HC.out y u wz (HBk.out.trans (hz.mono hsz))
              rw [hcz] at h9
              exact h9
            clear hcz
            have jp0 : (0 : Int) ≤ (H : Nat) := by omega
            have jp1 : ((H : Nat) : Int) < n := by omega
            have jq0 : (0 : Int) ≤ (a : Nat) := by omega
            have jq1 : ((a : Nat) : Int) < n := by omega
            go_wp2_with fail
            go_region_held3 (fun wz : World => wz.cell? ⟨g, H, none⟩ = some (.int .i64 y.1) ∧ wz.cell? ⟨g, a, none⟩ = some (.int .i64 u.1)) (first | (go_keep; done) | exact HS.out _ HD.out | exact HS.out _ HDz.out | fail) (first | (go_at_call 95; (with_reducible refine (HCM.out _ HD.out).mono ?_); rintro e w1 ⟨rfl, hb1⟩; have HDz : Hid (Below wq.heap.size wq w1) := Lib.hid (HD.out.trans (hb1.mono HD.out.size)); clear hb1))
            have HOz := Lib.hid (HOk.out.below HDz.out)
            have HBz := Lib.hid (HBk.out.trans (HDz.out.mono hsz))
            clear HS HD HDz HCM dcz jp0 jp1 jq0 jq1 hsz
            clear hkk
            go_wp2_with fail
            go_roundw
            case rel => exact ⟨lo, h, by rw [hI], by rw [hH], HN1, HOz, HBz⟩
            case measure => simp [intOf]; omega
        · have hlh2 : hi = lo := by omega
          subst hlh2
          have dlt : decide ((I : Int) < (J : Int)) = false := decide_eq_false (by omega)
          have dltn : decide (I < J) = false := decide_eq_false (by omega)
          obtain ⟨K, hK⟩ : ∃ z, I - 1 = z := ⟨_, rfl⟩
          have iK : IntKind.i64.wrap ((I : Int) - 1) = (K : Int) := by rw [show (I : Int) - 1 = (K : Int) by omega]; exact IntWalk.i64_in _ (by omega)
          have HW := Lib.hid (sea_one HLV.out HS1.out HQ.out)
          have HOu : Hid (Ow eF 1 wq B0 2 (.slice (some ⟨g, 0, none⟩) n c) n (UpL A u V B 0)) := Lib.hid (by have h9 := HOk.out; unfold UpL; rw [List.take_zero, List.drop_zero]; exact h9)
          go_wp2_with fail
          go_loopw [13] (fun vk wr => ∃ s : Nat, s ≤ hi ∧ vk = .int .i64 ((a + s : Nat) : Int) ∧ Hid (Ow eF 1 wr B0 2 (.slice (some ⟨g, 0, none⟩) n c) n (UpL A u V B s)) ∧ Hid (Below B0 w wr)) (fun vk _ => b + 1 - (intOf vk).toNat)
          case atStart => exact ⟨0, Nat.zero_le _, rfl, HOu, HBk⟩
          case round =>
            obtain ⟨s, hs, rfl, HOs, HBs⟩ := hrel
            obtain ⟨wp, hwp⟩ : ∃ wx, wx = wr := ⟨_, rfl⟩
            subst hwp
            obtain ⟨C, hC⟩ : ∃ z, a + s = z := ⟨_, rfl⟩
            rw [hC]
            by_cases hsl : C < K
            · obtain ⟨D, hD⟩ : ∃ z, C + 1 = z := ⟨_, rfl⟩
              have dsl : decide ((C : Int) < (K : Int)) = true := decide_eq_true (by omega)
              have dsln : decide (C < K) = true := decide_eq_true (by omega)
              have HPC : Hid ((UpL A u V B s)[C]? = some u) := Lib.hid (by rw [← hC]; exact UpL.get HA.out (by rw [HLV.out]; omega))
              obtain ⟨y, hy⟩ : ∃ z, (UpL A u V B s)[D]? = some z := ⟨_, by rw [← hD, ← hC]; exact UpL.next HA.out (by rw [HLV.out]; omega)⟩
              have HPD := Lib.hid hy
              have HST := Lib.hid (UpL.step (A := A) (V := V) (B := B) (u := u) (t := s) (y := y) HA.out (by rw [HLV.out]; omega) (by rw [hC, hD]; exact hy))
              rw [hC, hD] at HST
              clear hy
              have iD : IntKind.i64.wrap ((C : Int) + 1) = (D : Int) := by rw [show (C : Int) + 1 = (D : Int) by omega]; exact IntWalk.i64_in _ (by omega)
              have jp0 : (0 : Int) ≤ (C : Nat) := by omega
              have jp1 : ((C : Nat) : Int) < n := by omega
              have jq0 : (0 : Int) ≤ (D : Nat) := by omega
              have jq1 : ((D : Nat) : Int) < n := by omega
              have cp0 : wp.cell? ⟨g, C, none⟩ = some (.int .i64 u.1) := HOs.out.cellF HPC.out
              have cq0 : wp.cell? ⟨g, D, none⟩ = some (.int .i64 y.1) := HOs.out.cellF HPD.out
              have fp0 : wp.frozen? ⟨g, C, none⟩ = false := HOs.out.frozF C
              have fq0 : wp.frozen? ⟨g, D, none⟩ = false := HOs.out.frozF D
              have HO1 := Lib.hid (HOs.out.setF C y)
              have cm1 := HO1.out.cellF (set_otherF (a := C) HPD.out)
              have fm1 := HO1.out.frozF D
              clear HO1
              have HOn := Lib.hid (Ow.drewF ((HOs.out.setF C y).setF D u))
              have HBn := Lib.hid ((HBs.out.setCell (p := ⟨g, C, none⟩) hg0 (.int .i64 y.1)).setCell (p := ⟨g, D, none⟩) hg0 (.int .i64 u.1)).drew
              go_upto_region 11 with (fail)
              go_big_region
              obtain ⟨wn, hwn⟩ : ∃ wx, (((wp.setCell ⟨g, C, none⟩ (.int .i64 y.1)).setCell ⟨g, D, none⟩ (.int .i64 u.1)).drew) = wx := ⟨_, rfl⟩
              rw [hwn] at HOn HBn ⊢
              clear hwn cp0 cq0 fp0 fq0 cm1 fm1 jp0 jp1 jq0 jq1
              rw [HST.out] at HOn
              go_wp2_with fail
              go_roundw
              case rel => exact ⟨s + 1, by omega, by rw [show a + (s + 1) = D by omega], HOn, HBn⟩
              case measure => simp [intOf]; omega
            · have hsh : s = hi := by omega
              have dsl : decide ((C : Int) < (K : Int)) = false := decide_eq_false (by omega)
              have dsln : decide (C < K) = false := decide_eq_false (by omega)
              subst hsh
              go_wp2_with fail
              refine bodyPost_ret (results_none rfl _ _ _) rfl ?_
              exact ⟨rfl, _, HW.out, by have h9 := HOs.out; unfold UpL at h9; rw [List.append_assoc]; exact h9, HBs.out⟩
    · by_cases hv : lv = 1
      · have du : ((lu : Int) == 1) = false := beq_eq_false_iff_ne.2 (by omega)
        have dun : (lu == 1) = false := beq_eq_false_iff_ne.2 hu
        have dv : ((lv : Int) == 1) = true := beq_iff_eq.2 (by omega)
        have dvn : (lv == 1) = true := beq_iff_eq.2 hv
        obtain ⟨v, hV⟩ : ∃ v, V = [v] := List.length_eq_one_iff.1 (by rw [HLV.out]; exact hv)
        subst hV
        go_enter Tryz.func101, Tryz.ntmps101
        go_wp2_with fail
        go_loopw [14, 15] (fun vi vj wr => ∃ lo hi : Nat, vi = .int .i64 ((a + lo : Nat) : Int) ∧ vj = .int .i64 ((a + hi : Nat) : Int) ∧ Hid (SeaQ (fB2 key U v) 0 lu lo hi) ∧ Hid (Ow eF 1 wr B0 2 (.slice (some ⟨g, 0, none⟩) n c) n (A ++ (U ++ ([v] ++ B)))) ∧ Hid (Below B0 w wr)) (fun vi vj _ => (intOf vj).toNat - (intOf vi).toNat)
        case atStart => exact ⟨0, lu, by rw [Nat.add_zero], by rw [ham], Lib.hid (SeaQ.first _ (Nat.zero_le _)), HO, HB1⟩
        case round =>
          obtain ⟨lo, hi, rfl, rfl, HS1, HOk, HBk⟩ := hrel
          obtain ⟨wq, hwq⟩ : ∃ wx, wx = wr := ⟨_, rfl⟩
          subst hwq
          obtain ⟨I, hI⟩ : ∃ z, a + lo = z := ⟨_, rfl⟩
          obtain ⟨J, hJ⟩ : ∃ z, a + hi = z := ⟨_, rfl⟩
          rw [hI, hJ]
          have hlh := HS1.out.b
          have hhl := HS1.out.c
          by_cases hlt : I < J
          · obtain ⟨h, hh⟩ : ∃ z, (lo + hi) / 2 = z := ⟨_, rfl⟩
            obtain ⟨H, hH⟩ : ∃ z, a + h = z := ⟨_, rfl⟩
            have hh1 : lo ≤ h := by omega
            have hh2 : h < hi := by omega
            have dlt : decide ((I : Int) < (J : Int)) = true := decide_eq_true (by omega)
            have dltn : decide (I < J) = true := decide_eq_true (by omega)
            have iwH : IntKind.i64.wrap ((I : Int) + (J : Int)) = (I : Int) + (J : Int) := IntWalk.i64_in _ (by omega)
            have uwH : IntKind.u64.wrap ((I : Int) + (J : Int)) = (I : Int) + (J : Int) := by rw [IntKind.wrap_u64]; omega
            have hwH : IntKind.i64.wrap (((I : Int) + (J : Int)) / 2) = (H : Int) := by rw [show ((I : Int) + (J : Int)) / 2 = (H : Int) by omega]; exact IntWalk.i64_in _ (by omega)
            obtain ⟨x, hx⟩ : ∃ z, U[h]? = some z := ⟨_, List.getElem?_eq_getElem (by rw [HLU.out]; omega)⟩
            have HX := Lib.hid hx
            have HPX : Hid ((A ++ (U ++ ([v] ++ B)))[H]? = some x) := Lib.hid (by rw [← hH, get_U HA.out (by rw [HLU.out]; omega)]; exact hx)
            have HPV : Hid ((A ++ (U ++ ([v] ++ B)))[m]? = some v) := Lib.hid (by have h9 := get_V (A := A) (U := U) (V := [v]) (B := B) (i := 0) HA.out HM.out (by simp); rw [Nat.add_zero] at h9; rw [h9]; rfl)
            clear hx
            by_cases hkk : (key v) < (key x)
            · have HN1 : Hid (SeaQ (fB2 key U v) 0 lu lo h) := Lib.hid (HS1.out.dn hh1 hh2 (by rw [fB2_at HX.out]; exact decide_eq_true hkk))
              have hsz : B0 ≤ wq.heap.size := Nat.le_trans hB0 HBk.out.size
              have HS : Hid (∀ wz, Below wq.heap.size wq wz → wz.cell? ⟨g, m, none⟩ = some (.int .i64 v.1) ∧ wz.cell? ⟨g, H, none⟩ = some (.int .i64 x.1)) := Lib.hid fun wz hz => by
                have h9 := HOk.out.below hz
                exact ⟨h9.cellF HPV.out, h9.cellF HPX.out⟩
              have HD : Hid (Below wq.heap.size wq wq.drew) := Lib.hid (Below.refl _ _).drew
              obtain ⟨cz, hcz⟩ : ∃ z, cmpI (key v) (key x) = z := ⟨_, rfl⟩
              have dcz : decide (cz < 0) = true := by rw [← hcz]; unfold cmpI; rw [if_pos (by omega)]; rfl
              have HCM : Hid (∀ wz, Below wq.heap.size wq wz → Calls Tryz.prog 95 #[.int .i64 v.1, .int .i64 x.1, .pointer (some ⟨gb, 0, none⟩)] wz fun e w'' => e = .returned (.int .i64 cz) ∧ Below wz.heap.size wz w'') := Lib.hid fun wz hz => by
                have h9 := HC.out v x wz (HBk.out.trans (hz.mono hsz))
                rw [hcz] at h9
                exact h9
              clear hcz
              have jp0 : (0 : Int) ≤ (m : Nat) := by omega
              have jp1 : ((m : Nat) : Int) < n := by omega
              have jq0 : (0 : Int) ≤ (H : Nat) := by omega
              have jq1 : ((H : Nat) : Int) < n := by omega
              go_wp2_with fail
              go_region_held3 (fun wz : World => wz.cell? ⟨g, m, none⟩ = some (.int .i64 v.1) ∧ wz.cell? ⟨g, H, none⟩ = some (.int .i64 x.1)) (first | (go_keep; done) | exact HS.out _ HD.out | exact HS.out _ HDz.out | fail) (first | (go_at_call 95; (with_reducible refine (HCM.out _ HD.out).mono ?_); rintro e w1 ⟨rfl, hb1⟩; have HDz : Hid (Below wq.heap.size wq w1) := Lib.hid (HD.out.trans (hb1.mono HD.out.size)); clear hb1))
              have HOz := Lib.hid (HOk.out.below HDz.out)
              have HBz := Lib.hid (HBk.out.trans (HDz.out.mono hsz))
              clear HS HD HDz HCM dcz jp0 jp1 jq0 jq1 hsz
              clear hkk
              go_wp2_with fail
              go_roundw
              case rel => exact ⟨lo, h, by rw [hI], by rw [hH], HN1, HOz, HBz⟩
              case measure => simp [intOf]; omega
            · have HN1 : Hid (SeaQ (fB2 key U v) 0 lu (h + 1) hi) := Lib.hid (HS1.out.up hh1 hh2 (by rw [fB2_at HX.out]; exact decide_eq_false hkk))
              have iz : IntKind.i64.wrap ((H : Int) + 1) = (H : Int) + 1 := IntWalk.i64_in _ (by omega)
              have hsz : B0 ≤ wq.heap.size := Nat.le_trans hB0 HBk.out.size
              have HS : Hid (∀ wz, Below wq.heap.size wq wz → wz.cell? ⟨g, m, none⟩ = some (.int .i64 v.1) ∧ wz.cell? ⟨g, H, none⟩ = some (.int .i64 x.1)) := Lib.hid fun wz hz => by
                have h9 := HOk.out.below hz
                exact ⟨h9.cellF HPV.out, h9.cellF HPX.out⟩
              have HD : Hid (Below wq.heap.size wq wq.drew) := Lib.hid (Below.refl _ _).drew
              obtain ⟨cz, hcz⟩ : ∃ z, cmpI (key v) (key x) = z := ⟨_, rfl⟩
              have dcz : decide (cz < 0) = false := by rw [← hcz]; unfold cmpI; rw [if_neg (by omega)]; split <;> rfl
              have HCM : Hid (∀ wz, Below wq.heap.size wq wz → Calls Tryz.prog 95 #[.int .i64 v.1, .int .i64 x.1, .pointer (some ⟨gb, 0, none⟩)] wz fun e w'' => e = .returned (.int .i64 cz) ∧ Below wz.heap.size wz w'') := Lib.hid fun wz hz => by
                have h9 := HC.out v x wz (HBk.out.trans (hz.mono hsz))
                rw [hcz] at h9
                exact h9
              clear hcz
              have jp0 : (0 : Int) ≤ (m : Nat) := by omega
              have jp1 : ((m : Nat) : Int) < n := by omega
              have jq0 : (0 : Int) ≤ (H : Nat) := by omega
              have jq1 : ((H : Nat) : Int) < n := by omega
              go_wp2_with fail
              go_region_held3 (fun wz : World => wz.cell? ⟨g, m, none⟩ = some (.int .i64 v.1) ∧ wz.cell? ⟨g, H, none⟩ = some (.int .i64 x.1)) (first | (go_keep; done) | exact HS.out _ HD.out | exact HS.out _ HDz.out | fail) (first | (go_at_call 95; (with_reducible refine (HCM.out _ HD.out).mono ?_); rintro e w1 ⟨rfl, hb1⟩; have HDz : Hid (Below wq.heap.size wq w1) := Lib.hid (HD.out.trans (hb1.mono HD.out.size)); clear hb1))
              have HOz := Lib.hid (HOk.out.below HDz.out)
              have HBz := Lib.hid (HBk.out.trans (HDz.out.mono hsz))
              clear HS HD HDz HCM dcz jp0 jp1 jq0 jq1 hsz
              clear hkk
              go_wp2_with fail
              go_roundw
              case rel => exact ⟨h + 1, hi, by rw [show a + (h + 1) = H + 1 by omega, Int.natCast_add, Int.natCast_one], by rw [hJ], HN1, HOz, HBz⟩
              case measure => simp [intOf]; omega
          · have hlh2 : hi = lo := by omega
            subst hlh2
            have dlt : decide ((I : Int) < (J : Int)) = false := decide_eq_false (by omega)
            have dltn : decide (I < J) = false := decide_eq_false (by omega)
            have HW := Lib.hid (sea_last HLU.out HS1.out HQ.out)
            have HOu : Hid (Ow eF 1 wq B0 2 (.slice (some ⟨g, 0, none⟩) n c) n (UpL A v U B lu)) := Lib.hid (by
              have h9 := HOk.out
              unfold UpL
              rw [List.take_of_length_le (by rw [HLU.out]; exact Nat.le_refl _), List.drop_eq_nil_of_le (by rw [HLU.out]; exact Nat.le_refl _)]
              exact h9)
            go_wp2_with fail
            go_loopw [17] (fun vk wr => ∃ s : Nat, hi ≤ s ∧ s ≤ lu ∧ vk = .int .i64 ((a + s : Nat) : Int) ∧ Hid (Ow eF 1 wr B0 2 (.slice (some ⟨g, 0, none⟩) n c) n (UpL A v U B s)) ∧ Hid (Below B0 w wr)) (fun vk _ => (intOf vk).toNat)
            case atStart => exact ⟨lu, hhl, Nat.le_refl _, by rw [ham], HOu, HBk⟩
            case round =>
              obtain ⟨s, hs, hs2, rfl, HOs, HBs⟩ := hrel
              obtain ⟨wp, hwp⟩ : ∃ wx, wx = wr := ⟨_, rfl⟩
              subst hwp
              obtain ⟨C, hC⟩ : ∃ z, a + s = z := ⟨_, rfl⟩
              rw [hC]
              by_cases hsl : I < C
              · obtain ⟨r, rfl⟩ : ∃ z, s = z + 1 := ⟨s - 1, by omega⟩
                obtain ⟨D, hD⟩ : ∃ z, a + r = z := ⟨_, rfl⟩
                have hCD : C = D + 1 := by omega
                have dsl : decide ((I : Int) < (C : Int)) = true := decide_eq_true (by omega)
                have dsln : decide (I < C) = true := decide_eq_true (by omega)
                have HPC : Hid ((UpL A v U B (r + 1))[C]? = some v) := Lib.hid (by rw [← hC]; exact UpL.get HA.out (by rw [HLU.out]; omega))
                obtain ⟨y, hy⟩ : ∃ z, (UpL A v U B (r + 1))[D]? = some z := ⟨_, List.getElem?_eq_getElem (by have h9 := HOs.out.len eF_len (by decide); rw [h9]; omega)⟩
                have HPD := Lib.hid hy
                have HST := Lib.hid (UpL.down (A := A) (V := U) (B := B) (u := v) (t := r) (y := y) HA.out (by rw [HLU.out]; omega) (by rw [hD]; exact hy))
                rw [hD, ← hCD] at HST
                have hCD2 : D + 1 ≤ C := by omega
                have hCD3 : C ≤ D + 1 := by omega
                clear hy hCD
                have iD : IntKind.i64.wrap ((C : Int) - 1) = (D : Int) := by rw [show (C : Int) - 1 = (D : Int) by omega]; exact IntWalk.i64_in _ (by omega)
                have jp0 : (0 : Int) ≤ (C : Nat) := by omega
                have jp1 : ((C : Nat) : Int) < n := by omega
                have jq0 : (0 : Int) ≤ (D : Nat) := by omega
                have jq1 : ((D : Nat) : Int) < n := by omega
                have cp0 : wp.cell? ⟨g, C, none⟩ = some (.int .i64 v.1) := HOs.out.cellF HPC.out
                have cq0 : wp.cell? ⟨g, D, none⟩ = some (.int .i64 y.1) := HOs.out.cellF HPD.out
                have fp0 : wp.frozen? ⟨g, C, none⟩ = false := HOs.out.frozF C
                have fq0 : wp.frozen? ⟨g, D, none⟩ = false := HOs.out.frozF D
                have HO1 := Lib.hid (HOs.out.setF C y)
                have cm1 := HO1.out.cellF (set_otherF (a := C) HPD.out)
                have fm1 := HO1.out.frozF D
                clear HO1
                have HOn := Lib.hid (Ow.drewF ((HOs.out.setF C y).setF D v))
                have HBn := Lib.hid ((HBs.out.setCell (p := ⟨g, C, none⟩) hg0 (.int .i64 y.1)).setCell (p := ⟨g, D, none⟩) hg0 (.int .i64 v.1)).drew
                go_upto_region 23 with (fail)
                go_big_region
                obtain ⟨wn, hwn⟩ : ∃ wx, (((wp.setCell ⟨g, C, none⟩ (.int .i64 y.1)).setCell ⟨g, D, none⟩ (.int .i64 v.1)).drew) = wx := ⟨_, rfl⟩
                rw [hwn] at HOn HBn ⊢
                clear hwn cp0 cq0 fp0 fq0 cm1 fm1 jp0 jp1 jq0 jq1
                rw [HST.out] at HOn
                go_wp2_with fail
                go_roundw
                case rel => exact ⟨r, by omega, by omega, by rw [hD], HOn, HBn⟩
                case measure => simp [intOf]; omega
              · have hsh : s = hi := by omega
                have dsl : decide ((I : Int) < (C : Int)) = false := decide_eq_false (by omega)
                have dsln : decide (I < C) = false := decide_eq_false (by omega)
                subst hsh
                go_wp2_with fail
                refine bodyPost_ret (results_none rfl _ _ _) rfl ?_
                exact ⟨rfl, _, HW.out, by have h9 := HOs.out; unfold UpL at h9; rw [List.append_assoc]; exact h9, HBs.out⟩
      · have du : ((lu : Int) == 1) = false := beq_eq_false_iff_ne.2 (by omega)
        have dun : (lu == 1) = false := beq_eq_false_iff_ne.2 hu
        have dv : ((lv : Int) == 1) = false := beq_eq_false_iff_ne.2 (by omega)
        have dvn : (lv == 1) = false := beq_eq_false_iff_ne.2 hv
        obtain ⟨mid, hmid⟩ : ∃ z, (a + b) / 2 = z := ⟨_, rfl⟩
        have iwmid : IntKind.i64.wrap ((a : Int) + (b : Int)) = (a : Int) + (b : Int) := IntWalk.i64_in _ (by omega)
        have uwmid : IntKind.u64.wrap ((a : Int) + (b : Int)) = (a : Int) + (b : Int) := by rw [IntKind.wrap_u64]; omega
        have hwmid : IntKind.i64.wrap (((a : Int) + (b : Int)) / 2) = (mid : Int) := by rw [show ((a : Int) + (b : Int)) / 2 = (mid : Int) by omega]; exact IntWalk.i64_in _ (by omega)
        obtain ⟨nn, hnn⟩ : ∃ z, mid + m = z := ⟨_, rfl⟩
        have inn : IntKind.i64.wrap ((mid : Int) + (m : Int)) = (nn : Int) := by rw [show (mid : Int) + (m : Int) = (nn : Int) by omega]; exact IntWalk.i64_in _ (by omega)
        obtain ⟨pp, hpp⟩ : ∃ z, nn - 1 = z := ⟨_, rfl⟩
        have ipp : IntKind.i64.wrap ((nn : Int) - 1) = (pp : Int) := by rw [show (nn : Int) - 1 = (pp : Int) by omega]; exact IntWalk.i64_in _ (by omega)
        have inb : IntKind.i64.wrap ((nn : Int) - (b : Int)) = (nn : Int) - (b : Int) := IntWalk.i64_in _ (by omega)
        obtain ⟨dm, hdm⟩ : ∃ z, decide ((mid : Int) < (m : Int)) = z := ⟨_, rfl⟩
        obtain ⟨s0, r0, hc0, hs0, hr0⟩ : ∃ s0 r0 : Nat, ((mid < m ∧ s0 + b = mid + m ∧ r0 = mid) ∨ (m ≤ mid ∧ s0 = a ∧ r0 = m)) ∧ (s0 : Int) = (if dm = true then (nn : Int) - (b : Int) else (a : Int)) ∧ (r0 : Int) = (if dm = true then (mid : Int) else (m : Int)) := by
          rw [← hdm]
          by_cases h9 : mid < m
          · rw [decide_eq_true (show (mid : Int) < (m : Int) by omega), if_pos rfl, if_pos rfl]
            exact ⟨nn - b, mid, .inl ⟨h9, by omega, rfl⟩, by omega, rfl⟩
          · rw [decide_eq_false (show ¬ (mid : Int) < (m : Int) by omega), if_neg (by decide), if_neg (by decide)]
            exact ⟨a, m, .inr ⟨by omega, rfl, rfl⟩, rfl, rfl⟩
        have hdmn : decide (mid < m) = dm := by rw [← hdm]; exact decide_eq_decide.2 (by omega)
        have HS0 := Lib.hid hs0
        have HR0 := Lib.hid hr0
        have HC0 := Lib.hid hc0
        clear hs0 hr0
        go_enter Tryz.func101, Tryz.ntmps101
        go_upto_if 140 with (fail)
        go_cut [20, 21] (fun s20 s21 wx => s20 = .int .i64 (s0 : Int) ∧ s21 = .int .i64 (r0 : Int) ∧ w = wx)
        case first =>
          have hs0 := HS0.out
          have hr0 := HR0.out
          cases dm with
          | true =>
            rw [if_pos rfl] at hs0 hr0
            go_wp2_with fail
            go_meet
            exact ⟨by rw [hs0], by rw [hr0], rfl⟩
          | false =>
            rw [if_neg (by decide)] at hs0 hr0
            go_wp2_with fail
            go_meet
            exact ⟨by rw [hs0], by rw [hr0], rfl⟩
        case rest =>
          obtain ⟨rfl, rfl, rfl⟩ := hcut
          clear hdm hdmn HS0 HR0 iu iv du dun dv dvn iwmid uwmid hwmid inn inb
          have hsr : s0 ≤ r0 := by omega
          go_wp2_with fail
          go_loopw [20, 21] (fun vi vj wr => ∃ lo hi : Nat, vi = .int .i64 (lo : Int) ∧ vj = .int .i64 (hi : Int) ∧ Hid (SeaQ (fB3 key U V a mid) s0 r0 lo hi) ∧ Hid (Ow eF 1 wr B0 2 (.slice (some ⟨g, 0, none⟩) n c) n (A ++ (U ++ (V ++ B)))) ∧ Hid (Below B0 w wr)) (fun vi vj _ => (intOf vj).toNat - (intOf vi).toNat)
          case atStart => exact ⟨s0, r0, rfl, rfl, Lib.hid (SeaQ.first _ hsr), HO, HB1⟩
          case round =>
            obtain ⟨lo, hi, rfl, rfl, HS1, HOk, HBk⟩ := hrel
            obtain ⟨wq, hwq⟩ : ∃ wx, wx = wr := ⟨_, rfl⟩
            subst hwq
            clear ipp
            have hlh := HS1.out.b
            have hhl := HS1.out.c
            have hll := HS1.out.a
            by_cases hlt : lo < hi
            · obtain ⟨h, hh⟩ : ∃ z, (lo + hi) / 2 = z := ⟨_, rfl⟩
              have hh1 : lo ≤ h := by omega
              have hh2 : h < hi := by omega
              obtain ⟨K, hK⟩ : ∃ z, pp - h = z := ⟨_, rfl⟩
              have hKm : K = m + (mid - 1 - h) := by omega
              have hha : h = a + (h - a) := by omega
              have hx1 : h - a < lu := by omega
              have hx2 : mid - 1 - h < lv := by omega
              have iK : IntKind.i64.wrap ((pp : Int) - (h : Int)) = (K : Int) := by rw [show (pp : Int) - (h : Int) = (K : Int) by omega]; exact IntWalk.i64_in _ (by omega)
              have dlt : decide ((lo : Int) < (hi : Int)) = true := decide_eq_true (by omega)
              have dltn : decide (lo < hi) = true := decide_eq_true (by omega)
              have iwh : IntKind.i64.wrap ((lo : Int) + (hi : Int)) = (lo : Int) + (hi : Int) := IntWalk.i64_in _ (by omega)
              have uwh : IntKind.u64.wrap ((lo : Int) + (hi : Int)) = (lo : Int) + (hi : Int) := by rw [IntKind.wrap_u64]; omega
              have hwh : IntKind.i64.wrap (((lo : Int) + (hi : Int)) / 2) = (h : Int) := by rw [show ((lo : Int) + (hi : Int)) / 2 = (h : Int) by omega]; exact IntWalk.i64_in _ (by omega)
              obtain ⟨x, hx⟩ : ∃ z, U[h - a]? = some z := ⟨_, List.getElem?_eq_getElem (by rw [HLU.out]; exact hx1)⟩
              obtain ⟨y, hy⟩ : ∃ z, V[mid - 1 - h]? = some z := ⟨_, List.getElem?_eq_getElem (by rw [HLV.out]; exact hx2)⟩
              have HX := Lib.hid hx
              have HY := Lib.hid hy
              have HPX : Hid ((A ++ (U ++ (V ++ B)))[h]? = some x) := Lib.hid (by rw [hha, get_U HA.out (by rw [HLU.out]; exact hx1)]; exact hx)
              have HPY : Hid ((A ++ (U ++ (V ++ B)))[K]? = some y) := Lib.hid (by rw [hKm, get_V HA.out HM.out (by rw [HLV.out]; exact hx2)]; exact hy)
              clear hx hy hha hKm
              have hKn : K < n := by omega
              have hhn : h < n := by omega
              clear hx1 hx2
              by_cases hkk : (key y) < (key x)
              · have HN1 : Hid (SeaQ (fB3 key U V a mid) s0 r0 lo h) := Lib.hid (HS1.out.dn hh1 hh2 (by rw [fB3_at HX.out HY.out]; exact decide_eq_true hkk))
                have hsz : B0 ≤ wq.heap.size := Nat.le_trans hB0 HBk.out.size
                have HS : Hid (∀ wz, Below wq.heap.size wq wz → wz.cell? ⟨g, K, none⟩ = some (.int .i64 y.1) ∧ wz.cell? ⟨g, h, none⟩ = some (.int .i64 x.1)) := Lib.hid fun wz hz => by
                  have h9 := HOk.out.below hz
                  exact ⟨h9.cellF HPY.out, h9.cellF HPX.out⟩
                have HD : Hid (Below wq.heap.size wq wq.drew) := Lib.hid (Below.refl _ _).drew
                obtain ⟨cz, hcz⟩ : ∃ z, cmpI (key y) (key x) = z := ⟨_, rfl⟩
                have dcz : decide (cz < 0) = true := by rw [← hcz]; unfold cmpI; rw [if_pos (by omega)]; rfl
                have HCM : Hid (∀ wz, Below wq.heap.size wq wz → Calls Tryz.prog 95 #[.int .i64 y.1, .int .i64 x.1, .pointer (some ⟨gb, 0, none⟩)] wz fun e w'' => e = .returned (.int .i64 cz) ∧ Below wz.heap.size wz w'') := Lib.hid fun wz hz => by
                  have h9 := HC.out y x wz (HBk.out.trans (hz.mono hsz))
                  rw [hcz] at h9
                  exact h9
                clear hcz
                have jp0 : (0 : Int) ≤ (K : Nat) := by omega
                have jp1 : ((K : Nat) : Int) < n := by omega
                have jq0 : (0 : Int) ≤ (h : Nat) := by omega
                have jq1 : ((h : Nat) : Int) < n := by omega
                go_wp2_with fail
                go_region_held3 (fun wz : World => wz.cell? ⟨g, K, none⟩ = some (.int .i64 y.1) ∧ wz.cell? ⟨g, h, none⟩ = some (.int .i64 x.1)) (first | (go_keep; done) | exact HS.out _ HD.out | exact HS.out _ HDz.out | fail) (first | (go_at_call 95; (with_reducible refine (HCM.out _ HD.out).mono ?_); rintro e w1 ⟨rfl, hb1⟩; have HDz : Hid (Below wq.heap.size wq w1) := Lib.hid (HD.out.trans (hb1.mono HD.out.size)); clear hb1))
                have HOz := Lib.hid (HOk.out.below HDz.out)
                have HBz := Lib.hid (HBk.out.trans (HDz.out.mono hsz))
                clear HS HD HDz HCM dcz jp0 jp1 jq0 jq1 hsz
                clear hkk
                go_wp2_with fail
                go_roundw
                case rel => exact ⟨lo, h, rfl, rfl, HN1, HOz, HBz⟩
                case measure => simp [intOf]; omega
              · have HN1 : Hid (SeaQ (fB3 key U V a mid) s0 r0 (h + 1) hi) := Lib.hid (HS1.out.up hh1 hh2 (by rw [fB3_at HX.out HY.out]; exact decide_eq_false hkk))
                have iz : IntKind.i64.wrap ((h : Int) + 1) = (h : Int) + 1 := IntWalk.i64_in _ (by omega)
                have hsz : B0 ≤ wq.heap.size := Nat.le_trans hB0 HBk.out.size
                have HS : Hid (∀ wz, Below wq.heap.size wq wz → wz.cell? ⟨g, K, none⟩ = some (.int .i64 y.1) ∧ wz.cell? ⟨g, h, none⟩ = some (.int .i64 x.1)) := Lib.hid fun wz hz => by
                  have h9 := HOk.out.below hz
                  exact ⟨h9.cellF HPY.out, h9.cellF HPX.out⟩
                have HD : Hid (Below wq.heap.size wq wq.drew) := Lib.hid (Below.refl _ _).drew
                obtain ⟨cz, hcz⟩ : ∃ z, cmpI (key y) (key x) = z := ⟨_, rfl⟩
                have dcz : decide (cz < 0) = false := by rw [← hcz]; unfold cmpI; rw [if_neg (by omega)]; split <;> rfl
                have HCM : Hid (∀ wz, Below wq.heap.size wq wz → Calls Tryz.prog 95 #[.int .i64 y.1, .int .i64 x.1, .pointer (some ⟨gb, 0, none⟩)] wz fun e w'' => e = .returned (.int .i64 cz) ∧ Below wz.heap.size wz w'') := Lib.hid fun wz hz => by
                  have h9 := HC.out y x wz (HBk.out.trans (hz.mono hsz))
                  rw [hcz] at h9
                  exact h9
                clear hcz
                have jp0 : (0 : Int) ≤ (K : Nat) := by omega
                have jp1 : ((K : Nat) : Int) < n := by omega
                have jq0 : (0 : Int) ≤ (h : Nat) := by omega
                have jq1 : ((h : Nat) : Int) < n := by omega
                go_wp2_with fail
                go_region_held3 (fun wz : World => wz.cell? ⟨g, K, none⟩ = some (.int .i64 y.1) ∧ wz.cell? ⟨g, h, none⟩ = some (.int .i64 x.1)) (first | (go_keep; done) | exact HS.out _ HD.out | exact HS.out _ HDz.out | fail) (first | (go_at_call 95; (with_reducible refine (HCM.out _ HD.out).mono ?_); rintro e w1 ⟨rfl, hb1⟩; have HDz : Hid (Below wq.heap.size wq w1) := Lib.hid (HD.out.trans (hb1.mono HD.out.size)); clear hb1))
                have HOz := Lib.hid (HOk.out.below HDz.out)
                have HBz := Lib.hid (HBk.out.trans (HDz.out.mono hsz))
                clear HS HD HDz HCM dcz jp0 jp1 jq0 jq1 hsz
                clear hkk
                go_wp2_with fail
                go_roundw
                case rel => exact ⟨h + 1, hi, by go_num, rfl, HN1, HOz, HBz⟩
                case measure => simp [intOf]; omega
            · have hlh2 : hi = lo := by omega
              subst hlh2
              have dlt : decide ((hi : Int) < (hi : Int)) = false := decide_eq_false (by omega)
              have dltn : decide (hi < hi) = false := decide_eq_false (by omega)
              obtain ⟨S, hS⟩ : ∃ z, hi = z := ⟨_, rfl⟩
              subst hS
              have hCQ := sea_cut HM.out HBV.out hmid.symm (by rw [HLU.out]; omega) (by rw [HLV.out]; omega) HC0.out HS1.out
              have hSa : a ≤ hi := by omega
              have hSm : hi ≤ m := by omega
              have hSd : hi ≤ mid := by omega
              have hmb2 : mid < b := by omega
              have hma2 : a < mid := by omega
              obtain ⟨S, hS⟩ : ∃ z, hi = z := ⟨_, rfl⟩
              obtain ⟨E, hE⟩ : ∃ z, nn - S = z := ⟨_, rfl⟩
              rw [hS] at hCQ HS1 ⊢
              have hEb : E ≤ b := by have h9 := hCQ.t0; rw [HLV.out] at h9; omega
              have hEm : m ≤ E := by omega
              have hSE : mid - S = E - m := by omega
              have iE : IntKind.i64.wrap ((nn : Int) - (S : Int)) = (E : Int) := by rw [show (nn : Int) - (S : Int) = (E : Int) by omega]; exact IntWalk.i64_in _ (by omega)
              have HFIN : Hid (∀ L1 L2, SyD (slR key) (U.take (S - a) ++ V.take (mid - S)) L1 → SyD (slR key) (U.drop (S - a) ++ V.drop (mid - S)) L2 → SyD (slR key) (U ++ V) (L1 ++ L2)) := Lib.hid fun L1 L2 p1 p2 => merge_halves (keyR key) HQ.out hCQ p1 p2
              have HQL := Lib.hid (HQ.out.left (S - a) (mid - S))
              have HQR := Lib.hid (HQ.out.right (S - a) (mid - S))
              have hU12 : U = U.take (S - a) ++ U.drop (S - a) := (List.take_append_drop ..).symm
              have hV12 : V = V.take (mid - S) ++ V.drop (mid - S) := (List.take_append_drop ..).symm
              have HU1 : Hid ((U.take (S - a)).length = S - a) := Lib.hid (by rw [List.length_take, HLU.out]; omega)
              have HU2 : Hid ((U.drop (S - a)).length = m - S) := Lib.hid (by rw [List.length_drop, HLU.out]; omega)
              have HV1 : Hid ((V.take (mid - S)).length = E - m) := Lib.hid (by rw [List.length_take, HLV.out]; omega)
              have HV2 : Hid ((V.drop (mid - S)).length = b - E) := Lib.hid (by rw [List.length_drop, HLV.out]; omega)
              obtain ⟨U1, hU1⟩ : ∃ z, U.take (S - a) = z := ⟨_, rfl⟩
              obtain ⟨U2, hU2⟩ : ∃ z, U.drop (S - a) = z := ⟨_, rfl⟩
              obtain ⟨V1, hV1⟩ : ∃ z, V.take (mid - S) = z := ⟨_, rfl⟩
              obtain ⟨V2, hV2⟩ : ∃ z, V.drop (mid - S) = z := ⟨_, rfl⟩
              rw [hU1, hU2, hV1, hV2] at HFIN
              rw [hU1, hV1] at HQL
              rw [hU2, hV2] at HQR
              rw [hU1] at HU1
              rw [hU2] at HU2
              rw [hV1] at HV1
              rw [hV2] at HV2
              rw [hU1, hU2] at hU12
              rw [hV1, hV2] at hV12
              have HPS : Hid ((A ++ U1).length = S) := Lib.hid (by rw [List.length_append, HA.out, HU1.out]; omega)
              have HO4 : Hid (Ow eF 1 wq B0 2 (.slice (some ⟨g, 0, none⟩) n c) n ((A ++ U1) ++ (U2 ++ (V1 ++ (V2 ++ B))))) := Lib.hid (by
                have h9 := HOk.out
                rw [hU12, hV12] at h9
                have e9 : A ++ ((U1 ++ U2) ++ ((V1 ++ V2) ++ B)) = (A ++ U1) ++ (U2 ++ (V1 ++ (V2 ++ B))) := by simp only [List.append_assoc]
                rw [e9] at h9
                exact h9)
              clear hU1 hU2 hV1 hV2 hU12 hV12 hCQ HOk HO HC0 HS1 HQ HLU HLV HM HBV hhl hll hlt hsr hmid hnn hpp hc0
              by_cases kp : S < m
              · by_cases kq : m < E
                · by_cases kr : a < S
                  · by_cases kv : E < b
                    · have da1 : decide ((S : Int) < (m : Int)) = true := decide_eq_true (by omega)
                      have da1n : decide (S < m) = true := decide_eq_true (by omega)
                      have da2 : decide ((m : Int) < (E : Int)) = true := decide_eq_true (by omega)
                      have da2n : decide (m < E) = true := decide_eq_true (by omega)
                      have da3 : decide ((a : Int) < (S : Int)) = true := decide_eq_true (by omega)
                      have da3n : decide (a < S) = true := decide_eq_true (by omega)
                      have da4 : decide ((S : Int) < (mid : Int)) = true := decide_eq_true (by omega)
                      have da4n : decide (S < mid) = true := decide_eq_true (by omega)
                      have da5 : decide ((mid : Int) < (E : Int)) = true := decide_eq_true (by omega)
                      have da5n : decide (mid < E) = true := decide_eq_true (by omega)
                      have da6 : decide ((E : Int) < (b : Int)) = true := decide_eq_true (by omega)
                      have da6n : decide (E < b) = true := decide_eq_true (by omega)
                      have CR := Lib.hid (rotW (A ++ U1) U2 V1 (V2 ++ B) g n c B0 S m E (.func (.func 95) #[] #[.pointer (some ⟨gb, 0, none⟩)]) wq hg0 hn HPS.out (by rw [HU2.out]; omega) (by rw [HV1.out]; omega) (by rw [HU2.out]; omega) (by rw [HV1.out]; omega) HO4.out)
                      go_wp2_with fail
                      refine (CR.out).mono ?_
                      rintro e w5 ⟨rfl, ho5, hb5⟩
                      have HO5 := Lib.hid ho5
                      have HB5 := Lib.hid (HBk.out.trans hb5)
                      clear ho5 hb5 CR
                      have hs5 : B0 ≤ w5.heap.size := Nat.le_trans hB0 HB5.out.size
                      have CL := Lib.hid (IH.out A U1 V1 (U2 ++ (V2 ++ B)) g n c B0 a S mid w5 (HC.out.below HB5.out) (by rw [HU1.out, HV1.out]; omega) hs5 hg0 hn HA.out (by rw [HU1.out]; omega) (by rw [HV1.out]; omega) (by rw [HU1.out]; omega) (by rw [HV1.out]; omega) HQL.out (by have h9 := HO5.out; rw [List.append_assoc] at h9; exact h9))
                      go_wp2_with fail
                      refine (CL.out).mono ?_
                      rintro e w6 ⟨rfl, W1, hd6, ho6, hb6⟩
                      have HO6 := Lib.hid ho6
                      have HB6 := Lib.hid (HB5.out.trans hb6)
                      have HD1 := Lib.hid hd6
                      clear ho6 hb6 hd6 CL
                      have hW1l : W1.length = mid - a := by rw [HD1.out.1.length_eq, List.length_append, HU1.out, HV1.out]; omega
                      have hs6 : B0 ≤ w6.heap.size := Nat.le_trans hB0 HB6.out.size
                      have CRR := Lib.hid (IH.out (A ++ W1) U2 V2 B g n c B0 mid E b w6 (HC.out.below HB6.out) (by rw [HU2.out, HV2.out]; omega) hs6 hg0 hn (by rw [List.length_append, HA.out, hW1l]; omega) (by rw [HU2.out]; omega) (by rw [HV2.out]; omega) (by rw [HU2.out]; omega) (by rw [HV2.out]; omega) HQR.out (by have h9 := HO6.out; rw [List.append_assoc]; exact h9))
                      go_wp2_with fail
                      refine (CRR.out).mono ?_
                      rintro e w7 ⟨rfl, W2, hd7, ho7, hb7⟩
                      have HO7 := Lib.hid ho7
                      have HB7 := Lib.hid (HB6.out.trans hb7)
                      have HD2 := Lib.hid hd7
                      clear ho7 hb7 hd7 CRR
                      go_wp2_with fail
                      go_end0
                      exact ⟨rfl, W1 ++ W2, HFIN.out _ _ HD1.out HD2.out, by have h9 := HO7.out; rw [List.append_assoc] at h9; rw [List.append_assoc]; exact h9, HB7.out⟩
                    · have da1 : decide ((S : Int) < (m : Int)) = true := decide_eq_true (by omega)
                      have da1n : decide (S < m) = true := decide_eq_true (by omega)
                      have da2 : decide ((m : Int) < (E : Int)) = true := decide_eq_true (by omega)
                      have da2n : decide (m < E) = true := decide_eq_true (by omega)
                      have da3 : decide ((a : Int) < (S : Int)) = true := decide_eq_true (by omega)
                      have da3n : decide (a < S) = true := decide_eq_true (by omega)
                      have da4 : decide ((S : Int) < (mid : Int)) = true := decide_eq_true (by omega)
                      have da4n : decide (S < mid) = true := decide_eq_true (by omega)
                      have da5 : decide ((mid : Int) < (E : Int)) = true := decide_eq_true (by omega)
                      have da5n : decide (mid < E) = true := decide_eq_true (by omega)
                      have da6 : decide ((E : Int) < (b : Int)) = false := decide_eq_false (by omega)
                      have da6n : decide (E < b) = false := decide_eq_false (by omega)
                      have CR := Lib.hid (rotW (A ++ U1) U2 V1 (V2 ++ B) g n c B0 S m E (.func (.func 95) #[] #[.pointer (some ⟨gb, 0, none⟩)]) wq hg0 hn HPS.out (by rw [HU2.out]; omega) (by rw [HV1.out]; omega) (by rw [HU2.out]; omega) (by rw [HV1.out]; omega) HO4.out)
                      go_wp2_with fail
                      refine (CR.out).mono ?_
                      rintro e w5 ⟨rfl, ho5, hb5⟩
                      have HO5 := Lib.hid ho5
                      have HB5 := Lib.hid (HBk.out.trans hb5)
                      clear ho5 hb5 CR
                      have hs5 : B0 ≤ w5.heap.size := Nat.le_trans hB0 HB5.out.size
                      have CL := Lib.hid (IH.out A U1 V1 (U2 ++ (V2 ++ B)) g n c B0 a S mid w5 (HC.out.below HB5.out) (by rw [HU1.out, HV1.out]; omega) hs5 hg0 hn HA.out (by rw [HU1.out]; omega) (by rw [HV1.out]; omega) (by rw [HU1.out]; omega) (by rw [HV1.out]; omega) HQL.out (by have h9 := HO5.out; rw [List.append_assoc] at h9; exact h9))
                      go_wp2_with fail
                      refine (CL.out).mono ?_
                      rintro e w6 ⟨rfl, W1, hd6, ho6, hb6⟩
                      have HO6 := Lib.hid ho6
                      have HB6 := Lib.hid (HB5.out.trans hb6)
                      have HD1 := Lib.hid hd6
                      clear ho6 hb6 hd6 CL
                      have hW1l : W1.length = mid - a := by rw [HD1.out.1.length_eq, List.length_append, HU1.out, HV1.out]; omega
                      have hs6 : B0 ≤ w6.heap.size := Nat.le_trans hB0 HB6.out.size
                      have HD2 := Lib.hid (merge_nilV HQR.out (.inr (List.eq_nil_of_length_eq_zero (by rw [HV2.out]; omega))))
                      go_wp2_with fail
                      go_end0
                      exact ⟨rfl, W1 ++ (U2 ++ V2), HFIN.out _ _ HD1.out HD2.out, by have h9 := HO6.out; rw [List.append_assoc, List.append_assoc]; exact h9, HB6.out⟩
                  · by_cases kv : E < b
                    · have da1 : decide ((S : Int) < (m : Int)) = true := decide_eq_true (by omega)
                      have da1n : decide (S < m) = true := decide_eq_true (by omega)
                      have da2 : decide ((m : Int) < (E : Int)) = true := decide_eq_true (by omega)
                      have da2n : decide (m < E) = true := decide_eq_true (by omega)
                      have da3 : decide ((a : Int) < (S : Int)) = false := decide_eq_false (by omega)
                      have da3n : decide (a < S) = false := decide_eq_false (by omega)
                      have da4 : decide ((S : Int) < (mid : Int)) = true := decide_eq_true (by omega)
                      have da4n : decide (S < mid) = true := decide_eq_true (by omega)
                      have da5 : decide ((mid : Int) < (E : Int)) = true := decide_eq_true (by omega)
                      have da5n : decide (mid < E) = true := decide_eq_true (by omega)
                      have da6 : decide ((E : Int) < (b : Int)) = true := decide_eq_true (by omega)
                      have da6n : decide (E < b) = true := decide_eq_true (by omega)
                      have CR := Lib.hid (rotW (A ++ U1) U2 V1 (V2 ++ B) g n c B0 S m E (.func (.func 95) #[] #[.pointer (some ⟨gb, 0, none⟩)]) wq hg0 hn HPS.out (by rw [HU2.out]; omega) (by rw [HV1.out]; omega) (by rw [HU2.out]; omega) (by rw [HV1.out]; omega) HO4.out)
                      go_wp2_with fail
                      refine (CR.out).mono ?_
                      rintro e w5 ⟨rfl, ho5, hb5⟩
                      have HO5 := Lib.hid ho5
                      have HB5 := Lib.hid (HBk.out.trans hb5)
                      clear ho5 hb5 CR
                      have hs5 : B0 ≤ w5.heap.size := Nat.le_trans hB0 HB5.out.size
                      obtain ⟨w6, hw6⟩ : ∃ z, w5 = z := ⟨_, rfl⟩
                      have HB6 : Hid (Below B0 w w6) := Lib.hid (by rw [← hw6]; exact HB5.out)
                      have HO6 : Hid (Ow eF 1 w6 B0 2 (.slice (some ⟨g, 0, none⟩) n c) n (A ++ ((U1 ++ V1) ++ (U2 ++ (V2 ++ B))))) := Lib.hid (by have h9 := HO5.out; rw [hw6] at h9; rw [List.append_assoc] at h9; rw [List.append_assoc]; exact h9)
                      have HD1 : Hid (SyD (slR key) (U1 ++ V1) (U1 ++ V1)) := Lib.hid (merge_nilV HQL.out (.inl (List.eq_nil_of_length_eq_zero (by rw [HU1.out]; omega))))
                      obtain ⟨W1, hW1⟩ : ∃ z, U1 ++ V1 = z := ⟨_, rfl⟩
                      rw [hW1] at HO6
                      have HD1 : Hid (SyD (slR key) (U1 ++ V1) W1) := Lib.hid (by have h9 := HD1.out; rw [hW1] at h9 ⊢; exact h9)
                      rw [hw6]
                      clear hw6 hW1 hs5
                      have hW1l : W1.length = mid - a := by rw [HD1.out.1.length_eq, List.length_append, HU1.out, HV1.out]; omega
                      have hs6 : B0 ≤ w6.heap.size := Nat.le_trans hB0 HB6.out.size
                      have CRR := Lib.hid (IH.out (A ++ W1) U2 V2 B g n c B0 mid E b w6 (HC.out.below HB6.out) (by rw [HU2.out, HV2.out]; omega) hs6 hg0 hn (by rw [List.length_append, HA.out, hW1l]; omega) (by rw [HU2.out]; omega) (by rw [HV2.out]; omega) (by rw [HU2.out]; omega) (by rw [HV2.out]; omega) HQR.out (by have h9 := HO6.out; rw [List.append_assoc]; exact h9))
                      go_wp2_with fail
                      refine (CRR.out).mono ?_
                      rintro e w7 ⟨rfl, W2, hd7, ho7, hb7⟩
                      have HO7 := Lib.hid ho7
                      have HB7 := Lib.hid (HB6.out.trans hb7)
                      have HD2 := Lib.hid hd7
                      clear ho7 hb7 hd7 CRR
                      go_wp2_with fail
                      go_end0
                      exact ⟨rfl, W1 ++ W2, HFIN.out _ _ HD1.out HD2.out, by have h9 := HO7.out; rw [List.append_assoc] at h9; rw [List.append_assoc]; exact h9, HB7.out⟩
                    · have da1 : decide ((S : Int) < (m : Int)) = true := decide_eq_true (by omega)
                      have da1n : decide (S < m) = true := decide_eq_true (by omega)
                      have da2 : decide ((m : Int) < (E : Int)) = true := decide_eq_true (by omega)
                      have da2n : decide (m < E) = true := decide_eq_true (by omega)
                      have da3 : decide ((a : Int) < (S : Int)) = false := decide_eq_false (by omega)
                      have da3n : decide (a < S) = false := decide_eq_false (by omega)
                      have da4 : decide ((S : Int) < (mid : Int)) = true := decide_eq_true (by omega)
                      have da4n : decide (S < mid) = true := decide_eq_true (by omega)
                      have da5 : decide ((mid : Int) < (E : Int)) = true := decide_eq_true (by omega)
                      have da5n : decide (mid < E) = true := decide_eq_true (by omega)
                      have da6 : decide ((E : Int) < (b : Int)) = false := decide_eq_false (by omega)
                      have da6n : decide (E < b) = false := decide_eq_false (by omega)
                      have CR := Lib.hid (rotW (A ++ U1) U2 V1 (V2 ++ B) g n c B0 S m E (.func (.func 95) #[] #[.pointer (some ⟨gb, 0, none⟩)]) wq hg0 hn HPS.out (by rw [HU2.out]; omega) (by rw [HV1.out]; omega) (by rw [HU2.out]; omega) (by rw [HV1.out]; omega) HO4.out)
                      go_wp2_with fail
                      refine (CR.out).mono ?_
                      rintro e w5 ⟨rfl, ho5, hb5⟩
                      have HO5 := Lib.hid ho5
                      have HB5 := Lib.hid (HBk.out.trans hb5)
                      clear ho5 hb5 CR
                      have hs5 : B0 ≤ w5.heap.size := Nat.le_trans hB0 HB5.out.size
                      obtain ⟨w6, hw6⟩ : ∃ z, w5 = z := ⟨_, rfl⟩
                      have HB6 : Hid (Below B0 w w6) := Lib.hid (by rw [← hw6]; exact HB5.out)
                      have HO6 : Hid (Ow eF 1 w6 B0 2 (.slice (some ⟨g, 0, none⟩) n c) n (A ++ ((U1 ++ V1) ++ (U2 ++ (V2 ++ B))))) := Lib.hid (by have h9 := HO5.out; rw [hw6] at h9; rw [List.append_assoc] at h9; rw [List.append_assoc]; exact h9)
                      have HD1 : Hid (SyD (slR key) (U1 ++ V1) (U1 ++ V1)) := Lib.hid (merge_nilV HQL.out (.inl (List.eq_nil_of_length_eq_zero (by rw [HU1.out]; omega))))
                      obtain ⟨W1, hW1⟩ : ∃ z, U1 ++ V1 = z := ⟨_, rfl⟩
                      rw [hW1] at HO6
                      have HD1 : Hid (SyD (slR key) (U1 ++ V1) W1) := Lib.hid (by have h9 := HD1.out; rw [hW1] at h9 ⊢; exact h9)
                      rw [hw6]
                      clear hw6 hW1 hs5
                      have hW1l : W1.length = mid - a := by rw [HD1.out.1.length_eq, List.length_append, HU1.out, HV1.out]; omega
                      have hs6 : B0 ≤ w6.heap.size := Nat.le_trans hB0 HB6.out.size
                      have HD2 := Lib.hid (merge_nilV HQR.out (.inr (List.eq_nil_of_length_eq_zero (by rw [HV2.out]; omega))))
                      go_wp2_with fail
                      go_end0
                      exact ⟨rfl, W1 ++ (U2 ++ V2), HFIN.out _ _ HD1.out HD2.out, by have h9 := HO6.out; rw [List.append_assoc, List.append_assoc]; exact h9, HB6.out⟩
                · by_cases kr : a < S
                  · by_cases kv : E < b
                    · have da1 : decide ((S : Int) < (m : Int)) = true := decide_eq_true (by omega)
                      have da1n : decide (S < m) = true := decide_eq_true (by omega)
                      have da2 : decide ((m : Int) < (E : Int)) = false := decide_eq_false (by omega)
                      have da2n : decide (m < E) = false := decide_eq_false (by omega)
                      have da3 : decide ((a : Int) < (S : Int)) = true := decide_eq_true (by omega)
                      have da3n : decide (a < S) = true := decide_eq_true (by omega)
                      have da4 : decide ((S : Int) < (mid : Int)) = false := decide_eq_false (by omega)
                      have da4n : decide (S < mid) = false := decide_eq_false (by omega)
                      have da5 : decide ((mid : Int) < (E : Int)) = true := decide_eq_true (by omega)
                      have da5n : decide (mid < E) = true := decide_eq_true (by omega)
                      have da6 : decide ((E : Int) < (b : Int)) = true := decide_eq_true (by omega)
                      have da6n : decide (E < b) = true := decide_eq_true (by omega)
                      obtain ⟨w5, hw5⟩ : ∃ z, wq = z := ⟨_, rfl⟩
                      have HB5 : Hid (Below B0 w w5) := Lib.hid (by rw [← hw5]; exact HBk.out)
                      have HO5 : Hid (Ow eF 1 w5 B0 2 (.slice (some ⟨g, 0, none⟩) n c) n ((A ++ U1) ++ (V1 ++ (U2 ++ (V2 ++ B))))) := Lib.hid (by
                        have h9 := HO4.out
                        rw [hw5] at h9
                        have hnil : V1 = [] := List.eq_nil_of_length_eq_zero (by rw [HV1.out]; omega)
                        rw [hnil] at h9 ⊢
                        exact h9)
                      rw [hw5]
                      clear hw5
                      have hs5 : B0 ≤ w5.heap.size := Nat.le_trans hB0 HB5.out.size
                      obtain ⟨w6, hw6⟩ : ∃ z, w5 = z := ⟨_, rfl⟩
                      have HB6 : Hid (Below B0 w w6) := Lib.hid (by rw [← hw6]; exact HB5.out)
                      have HO6 : Hid (Ow eF 1 w6 B0 2 (.slice (some ⟨g, 0, none⟩) n c) n (A ++ ((U1 ++ V1) ++ (U2 ++ (V2 ++ B))))) := Lib.hid (by have h9 := HO5.out; rw [hw6] at h9; rw [List.append_assoc] at h9; rw [List.append_assoc]; exact h9)
                      have HD1 : Hid (SyD (slR key) (U1 ++ V1) (U1 ++ V1)) := Lib.hid (merge_nilV HQL.out (.inr (List.eq_nil_of_length_eq_zero (by rw [HV1.out]; omega))))
                      obtain ⟨W1, hW1⟩ : ∃ z, U1 ++ V1 = z := ⟨_, rfl⟩
                      rw [hW1] at HO6
                      have HD1 : Hid (SyD (slR key) (U1 ++ V1) W1) := Lib.hid (by have h9 := HD1.out; rw [hW1] at h9 ⊢; exact h9)
                      rw [hw6]
                      clear hw6 hW1 hs5
                      have hW1l : W1.length = mid - a := by rw [HD1.out.1.length_eq, List.length_append, HU1.out, HV1.out]; omega
                      have hs6 : B0 ≤ w6.heap.size := Nat.le_trans hB0 HB6.out.size
                      have CRR := Lib.hid (IH.out (A ++ W1) U2 V2 B g n c B0 mid E b w6 (HC.out.below HB6.out) (by rw [HU2.out, HV2.out]; omega) hs6 hg0 hn (by rw [List.length_append, HA.out, hW1l]; omega) (by rw [HU2.out]; omega) (by rw [HV2.out]; omega) (by rw [HU2.out]; omega) (by rw [HV2.out]; omega) HQR.out (by have h9 := HO6.out; rw [List.append_assoc]; exact h9))
                      go_wp2_with fail
                      refine (CRR.out).mono ?_
                      rintro e w7 ⟨rfl, W2, hd7, ho7, hb7⟩
                      have HO7 := Lib.hid ho7
                      have HB7 := Lib.hid (HB6.out.trans hb7)
                      have HD2 := Lib.hid hd7
                      clear ho7 hb7 hd7 CRR
                      go_wp2_with fail
                      go_end0
                      exact ⟨rfl, W1 ++ W2, HFIN.out _ _ HD1.out HD2.out, by have h9 := HO7.out; rw [List.append_assoc] at h9; rw [List.append_assoc]; exact h9, HB7.out⟩
                    · have da1 : decide ((S : Int) < (m : Int)) = true := decide_eq_true (by omega)
                      have da1n : decide (S < m) = true := decide_eq_true (by omega)
                      have da2 : decide ((m : Int) < (E : Int)) = false := decide_eq_false (by omega)
                      have da2n : decide (m < E) = false := decide_eq_false (by omega)
                      have da3 : decide ((a : Int) < (S : Int)) = true := decide_eq_true (by omega)
                      have da3n : decide (a < S) = true := decide_eq_true (by omega)
                      have da4 : decide ((S : Int) < (mid : Int)) = false := decide_eq_false (by omega)
                      have da4n : decide (S < mid) = false := decide_eq_false (by omega)
                      have da5 : decide ((mid : Int) < (E : Int)) = true := decide_eq_true (by omega)
                      have da5n : decide (mid < E) = true := decide_eq_true (by omega)
                      have da6 : decide ((E : Int) < (b : Int)) = false := decide_eq_false (by omega)
                      have da6n : decide (E < b) = false := decide_eq_false (by omega)
                      obtain ⟨w5, hw5⟩ : ∃ z, wq = z := ⟨_, rfl⟩
                      have HB5 : Hid (Below B0 w w5) := Lib.hid (by rw [← hw5]; exact HBk.out)
                      have HO5 : Hid (Ow eF 1 w5 B0 2 (.slice (some ⟨g, 0, none⟩) n c) n ((A ++ U1) ++ (V1 ++ (U2 ++ (V2 ++ B))))) := Lib.hid (by
                        have h9 := HO4.out
                        rw [hw5] at h9
                        have hnil : V1 = [] := List.eq_nil_of_length_eq_zero (by rw [HV1.out]; omega)
                        rw [hnil] at h9 ⊢
                        exact h9)
                      rw [hw5]
                      clear hw5
                      have hs5 : B0 ≤ w5.heap.size := Nat.le_trans hB0 HB5.out.size
                      obtain ⟨w6, hw6⟩ : ∃ z, w5 = z := ⟨_, rfl⟩
                      have HB6 : Hid (Below B0 w w6) := Lib.hid (by rw [← hw6]; exact HB5.out)
                      have HO6 : Hid (Ow eF 1 w6 B0 2 (.slice (some ⟨g, 0, none⟩) n c) n (A ++ ((U1 ++ V1) ++ (U2 ++ (V2 ++ B))))) := Lib.hid (by have h9 := HO5.out; rw [hw6] at h9; rw [List.append_assoc] at h9; rw [List.append_assoc]; exact h9)
                      have HD1 : Hid (SyD (slR key) (U1 ++ V1) (U1 ++ V1)) := Lib.hid (merge_nilV HQL.out (.inr (List.eq_nil_of_length_eq_zero (by rw [HV1.out]; omega))))
                      obtain ⟨W1, hW1⟩ : ∃ z, U1 ++ V1 = z := ⟨_, rfl⟩
                      rw [hW1] at HO6
                      have HD1 : Hid (SyD (slR key) (U1 ++ V1) W1) := Lib.hid (by have h9 := HD1.out; rw [hW1] at h9 ⊢; exact h9)
                      rw [hw6]
                      clear hw6 hW1 hs5
                      have hW1l : W1.length = mid - a := by rw [HD1.out.1.length_eq, List.length_append, HU1.out, HV1.out]; omega
                      have hs6 : B0 ≤ w6.heap.size := Nat.le_trans hB0 HB6.out.size
                      have HD2 := Lib.hid (merge_nilV HQR.out (.inr (List.eq_nil_of_length_eq_zero (by rw [HV2.out]; omega))))
                      go_wp2_with fail
                      go_end0
                      exact ⟨rfl, W1 ++ (U2 ++ V2), HFIN.out _ _ HD1.out HD2.out, by have h9 := HO6.out; rw [List.append_assoc, List.append_assoc]; exact h9, HB6.out⟩
                  · by_cases kv : E < b
                    · have da1 : decide ((S : Int) < (m : Int)) = true := decide_eq_true (by omega)
                      have da1n : decide (S < m) = true := decide_eq_true (by omega)
                      have da2 : decide ((m : Int) < (E : Int)) = false := decide_eq_false (by omega)
                      have da2n : decide (m < E) = false := decide_eq_false (by omega)
                      have da3 : decide ((a : Int) < (S : Int)) = false := decide_eq_false (by omega)
                      have da3n : decide (a < S) = false := decide_eq_false (by omega)
                      have da4 : decide ((S : Int) < (mid : Int)) = false := decide_eq_false (by omega)
                      have da4n : decide (S < mid) = false := decide_eq_false (by omega)
                      have da5 : decide ((mid : Int) < (E : Int)) = true := decide_eq_true (by omega)
                      have da5n : decide (mid < E) = true := decide_eq_true (by omega)
                      have da6 : decide ((E : Int) < (b : Int)) = true := decide_eq_true (by omega)
                      have da6n : decide (E < b) = true := decide_eq_true (by omega)
                      obtain ⟨w5, hw5⟩ : ∃ z, wq = z := ⟨_, rfl⟩
                      have HB5 : Hid (Below B0 w w5) := Lib.hid (by rw [← hw5]; exact HBk.out)
                      have HO5 : Hid (Ow eF 1 w5 B0 2 (.slice (some ⟨g, 0, none⟩) n c) n ((A ++ U1) ++ (V1 ++ (U2 ++ (V2 ++ B))))) := Lib.hid (by
                        have h9 := HO4.out
                        rw [hw5] at h9
                        have hnil : V1 = [] := List.eq_nil_of_length_eq_zero (by rw [HV1.out]; omega)
                        rw [hnil] at h9 ⊢
                        exact h9)
                      rw [hw5]
                      clear hw5
                      have hs5 : B0 ≤ w5.heap.size := Nat.le_trans hB0 HB5.out.size
                      obtain ⟨w6, hw6⟩ : ∃ z, w5 = z := ⟨_, rfl⟩
                      have HB6 : Hid (Below B0 w w6) := Lib.hid (by rw [← hw6]; exact HB5.out)
                      have HO6 : Hid (Ow eF 1 w6 B0 2 (.slice (some ⟨g, 0, none⟩) n c) n (A ++ ((U1 ++ V1) ++ (U2 ++ (V2 ++ B))))) := Lib.hid (by have h9 := HO5.out; rw [hw6] at h9; rw [List.append_assoc] at h9; rw [List.append_assoc]; exact h9)
                      have HD1 : Hid (SyD (slR key) (U1 ++ V1) (U1 ++ V1)) := Lib.hid (merge_nilV HQL.out (.inl (List.eq_nil_of_length_eq_zero (by rw [HU1.out]; omega))))
                      obtain ⟨W1, hW1⟩ : ∃ z, U1 ++ V1 = z := ⟨_, rfl⟩
                      rw [hW1] at HO6
                      have HD1 : Hid (SyD (slR key) (U1 ++ V1) W1) := Lib.hid (by have h9 := HD1.out; rw [hW1] at h9 ⊢; exact h9)
                      rw [hw6]
                      clear hw6 hW1 hs5
                      have hW1l : W1.length = mid - a := by rw [HD1.out.1.length_eq, List.length_append, HU1.out, HV1.out]; omega
                      have hs6 : B0 ≤ w6.heap.size := Nat.le_trans hB0 HB6.out.size
                      have CRR := Lib.hid (IH.out (A ++ W1) U2 V2 B g n c B0 mid E b w6 (HC.out.below HB6.out) (by rw [HU2.out, HV2.out]; omega) hs6 hg0 hn (by rw [List.length_append, HA.out, hW1l]; omega) (by rw [HU2.out]; omega) (by rw [HV2.out]; omega) (by rw [HU2.out]; omega) (by rw [HV2.out]; omega) HQR.out (by have h9 := HO6.out; rw [List.append_assoc]; exact h9))
                      go_wp2_with fail
                      refine (CRR.out).mono ?_
                      rintro e w7 ⟨rfl, W2, hd7, ho7, hb7⟩
                      have HO7 := Lib.hid ho7
                      have HB7 := Lib.hid (HB6.out.trans hb7)
                      have HD2 := Lib.hid hd7
                      clear ho7 hb7 hd7 CRR
                      go_wp2_with fail
                      go_end0
                      exact ⟨rfl, W1 ++ W2, HFIN.out _ _ HD1.out HD2.out, by have h9 := HO7.out; rw [List.append_assoc] at h9; rw [List.append_assoc]; exact h9, HB7.out⟩
                    · have da1 : decide ((S : Int) < (m : Int)) = true := decide_eq_true (by omega)
                      have da1n : decide (S < m) = true := decide_eq_true (by omega)
                      have da2 : decide ((m : Int) < (E : Int)) = false := decide_eq_false (by omega)
                      have da2n : decide (m < E) = false := decide_eq_false (by omega)
                      have da3 : decide ((a : Int) < (S : Int)) = false := decide_eq_false (by omega)
                      have da3n : decide (a < S) = false := decide_eq_false (by omega)
                      have da4 : decide ((S : Int) < (mid : Int)) = false := decide_eq_false (by omega)
                      have da4n : decide (S < mid) = false := decide_eq_false (by omega)
                      have da5 : decide ((mid : Int) < (E : Int)) = true := decide_eq_true (by omega)
                      have da5n : decide (mid < E) = true := decide_eq_true (by omega)
                      have da6 : decide ((E : Int) < (b : Int)) = false := decide_eq_false (by omega)
                      have da6n : decide (E < b) = false := decide_eq_false (by omega)
                      obtain ⟨w5, hw5⟩ : ∃ z, wq = z := ⟨_, rfl⟩
                      have HB5 : Hid (Below B0 w w5) := Lib.hid (by rw [← hw5]; exact HBk.out)
                      have HO5 : Hid (Ow eF 1 w5 B0 2 (.slice (some ⟨g, 0, none⟩) n c) n ((A ++ U1) ++ (V1 ++ (U2 ++ (V2 ++ B))))) := Lib.hid (by
                        have h9 := HO4.out
                        rw [hw5] at h9
                        have hnil : V1 = [] := List.eq_nil_of_length_eq_zero (by rw [HV1.out]; omega)
                        rw [hnil] at h9 ⊢
                        exact h9)
                      rw [hw5]
                      clear hw5
                      have hs5 : B0 ≤ w5.heap.size := Nat.le_trans hB0 HB5.out.size
                      obtain ⟨w6, hw6⟩ : ∃ z, w5 = z := ⟨_, rfl⟩
                      have HB6 : Hid (Below B0 w w6) := Lib.hid (by rw [← hw6]; exact HB5.out)
                      have HO6 : Hid (Ow eF 1 w6 B0 2 (.slice (some ⟨g, 0, none⟩) n c) n (A ++ ((U1 ++ V1) ++ (U2 ++ (V2 ++ B))))) := Lib.hid (by have h9 := HO5.out; rw [hw6] at h9; rw [List.append_assoc] at h9; rw [List.append_assoc]; exact h9)
                      have HD1 : Hid (SyD (slR key) (U1 ++ V1) (U1 ++ V1)) := Lib.hid (merge_nilV HQL.out (.inl (List.eq_nil_of_length_eq_zero (by rw [HU1.out]; omega))))
                      obtain ⟨W1, hW1⟩ : ∃ z, U1 ++ V1 = z := ⟨_, rfl⟩
                      rw [hW1] at HO6
                      have HD1 : Hid (SyD (slR key) (U1 ++ V1) W1) := Lib.hid (by have h9 := HD1.out; rw [hW1] at h9 ⊢; exact h9)
                      rw [hw6]
                      clear hw6 hW1 hs5
                      have hW1l : W1.length = mid - a := by rw [HD1.out.1.length_eq, List.length_append, HU1.out, HV1.out]; omega
                      have hs6 : B0 ≤ w6.heap.size := Nat.le_trans hB0 HB6.out.size
                      have HD2 := Lib.hid (merge_nilV HQR.out (.inr (List.eq_nil_of_length_eq_zero (by rw [HV2.out]; omega))))
                      go_wp2_with fail
                      go_end0
                      exact ⟨rfl, W1 ++ (U2 ++ V2), HFIN.out _ _ HD1.out HD2.out, by have h9 := HO6.out; rw [List.append_assoc, List.append_assoc]; exact h9, HB6.out⟩
              · by_cases kq : m < E
                · by_cases kr : a < S
                  · by_cases kv : E < b
                    · have da1 : decide ((S : Int) < (m : Int)) = false := decide_eq_false (by omega)
                      have da1n : decide (S < m) = false := decide_eq_false (by omega)
                      have da2 : decide ((m : Int) < (E : Int)) = true := decide_eq_true (by omega)
                      have da2n : decide (m < E) = true := decide_eq_true (by omega)
                      have da3 : decide ((a : Int) < (S : Int)) = true := decide_eq_true (by omega)
                      have da3n : decide (a < S) = true := decide_eq_true (by omega)
                      have da4 : decide ((S : Int) < (mid : Int)) = true := decide_eq_true (by omega)
                      have da4n : decide (S < mid) = true := decide_eq_true (by omega)
                      have da5 : decide ((mid : Int) < (E : Int)) = false := decide_eq_false (by omega)
                      have da5n : decide (mid < E) = false := decide_eq_false (by omega)
                      have da6 : decide ((E : Int) < (b : Int)) = true := decide_eq_true (by omega)
                      have da6n : decide (E < b) = true := decide_eq_true (by omega)
                      obtain ⟨w5, hw5⟩ : ∃ z, wq = z := ⟨_, rfl⟩
                      have HB5 : Hid (Below B0 w w5) := Lib.hid (by rw [← hw5]; exact HBk.out)
                      have HO5 : Hid (Ow eF 1 w5 B0 2 (.slice (some ⟨g, 0, none⟩) n c) n ((A ++ U1) ++ (V1 ++ (U2 ++ (V2 ++ B))))) := Lib.hid (by
                        have h9 := HO4.out
                        rw [hw5] at h9
                        have hnil : U2 = [] := List.eq_nil_of_length_eq_zero (by rw [HU2.out]; omega)
                        rw [hnil] at h9 ⊢
                        exact h9)
                      rw [hw5]
                      clear hw5
                      have hs5 : B0 ≤ w5.heap.size := Nat.le_trans hB0 HB5.out.size
                      have CL := Lib.hid (IH.out A U1 V1 (U2 ++ (V2 ++ B)) g n c B0 a S mid w5 (HC.out.below HB5.out) (by rw [HU1.out, HV1.out]; omega) hs5 hg0 hn HA.out (by rw [HU1.out]; omega) (by rw [HV1.out]; omega) (by rw [HU1.out]; omega) (by rw [HV1.out]; omega) HQL.out (by have h9 := HO5.out; rw [List.append_assoc] at h9; exact h9))
                      go_wp2_with fail
                      refine (CL.out).mono ?_
                      rintro e w6 ⟨rfl, W1, hd6, ho6, hb6⟩
                      have HO6 := Lib.hid ho6
                      have HB6 := Lib.hid (HB5.out.trans hb6)
                      have HD1 := Lib.hid hd6
                      clear ho6 hb6 hd6 CL
                      have hW1l : W1.length = mid - a := by rw [HD1.out.1.length_eq, List.length_append, HU1.out, HV1.out]; omega
                      have hs6 : B0 ≤ w6.heap.size := Nat.le_trans hB0 HB6.out.size
                      have HD2 := Lib.hid (merge_nilV HQR.out (.inl (List.eq_nil_of_length_eq_zero (by rw [HU2.out]; omega))))
                      go_wp2_with fail
                      go_end0
                      exact ⟨rfl, W1 ++ (U2 ++ V2), HFIN.out _ _ HD1.out HD2.out, by have h9 := HO6.out; rw [List.append_assoc, List.append_assoc]; exact h9, HB6.out⟩
                    · have da1 : decide ((S : Int) < (m : Int)) = false := decide_eq_false (by omega)
                      have da1n : decide (S < m) = false := decide_eq_false (by omega)
                      have da2 : decide ((m : Int) < (E : Int)) = true := decide_eq_true (by omega)
                      have da2n : decide (m < E) = true := decide_eq_true (by omega)
                      have da3 : decide ((a : Int) < (S : Int)) = true := decide_eq_true (by omega)
                      have da3n : decide (a < S) = true := decide_eq_true (by omega)
                      have da4 : decide ((S : Int) < (mid : Int)) = true := decide_eq_true (by omega)
                      have da4n : decide (S < mid) = true := decide_eq_true (by omega)
                      have da5 : decide ((mid : Int) < (E : Int)) = false := decide_eq_false (by omega)
                      have da5n : decide (mid < E) = false := decide_eq_false (by omega)
                      have da6 : decide ((E : Int) < (b : Int)) = false := decide_eq_false (by omega)
                      have da6n : decide (E < b) = false := decide_eq_false (by omega)
                      obtain ⟨w5, hw5⟩ : ∃ z, wq = z := ⟨_, rfl⟩
                      have HB5 : Hid (Below B0 w w5) := Lib.hid (by rw [← hw5]; exact HBk.out)
                      have HO5 : Hid (Ow eF 1 w5 B0 2 (.slice (some ⟨g, 0, none⟩) n c) n ((A ++ U1) ++ (V1 ++ (U2 ++ (V2 ++ B))))) := Lib.hid (by
                        have h9 := HO4.out
                        rw [hw5] at h9
                        have hnil : U2 = [] := List.eq_nil_of_length_eq_zero (by rw [HU2.out]; omega)
                        rw [hnil] at h9 ⊢
                        exact h9)
                      rw [hw5]
                      clear hw5
                      have hs5 : B0 ≤ w5.heap.size := Nat.le_trans hB0 HB5.out.size
                      have CL := Lib.hid (IH.out A U1 V1 (U2 ++ (V2 ++ B)) g n c B0 a S mid w5 (HC.out.below HB5.out) (by rw [HU1.out, HV1.out]; omega) hs5 hg0 hn HA.out (by rw [HU1.out]; omega) (by rw [HV1.out]; omega) (by rw [HU1.out]; omega) (by rw [HV1.out]; omega) HQL.out (by have h9 := HO5.out; rw [List.append_assoc] at h9; exact h9))
                      go_wp2_with fail
                      refine (CL.out).mono ?_
                      rintro e w6 ⟨rfl, W1, hd6, ho6, hb6⟩
                      have HO6 := Lib.hid ho6
                      have HB6 := Lib.hid (HB5.out.trans hb6)
                      have HD1 := Lib.hid hd6
                      clear ho6 hb6 hd6 CL
                      have hW1l : W1.length = mid - a := by rw [HD1.out.1.length_eq, List.length_append, HU1.out, HV1.out]; omega
                      have hs6 : B0 ≤ w6.heap.size := Nat.le_trans hB0 HB6.out.size
                      have HD2 := Lib.hid (merge_nilV HQR.out (.inl (List.eq_nil_of_length_eq_zero (by rw [HU2.out]; omega))))
                      go_wp2_with fail
                      go_end0
                      exact ⟨rfl, W1 ++ (U2 ++ V2), HFIN.out _ _ HD1.out HD2.out, by have h9 := HO6.out; rw [List.append_assoc, List.append_assoc]; exact h9, HB6.out⟩
                  · by_cases kv : E < b
                    · have da1 : decide ((S : Int) < (m : Int)) = false := decide_eq_false (by omega)
                      have da1n : decide (S < m) = false := decide_eq_false (by omega)
                      have da2 : decide ((m : Int) < (E : Int)) = true := decide_eq_true (by omega)
                      have da2n : decide (m < E) = true := decide_eq_true (by omega)
                      have da3 : decide ((a : Int) < (S : Int)) = false := decide_eq_false (by omega)
                      have da3n : decide (a < S) = false := decide_eq_false (by omega)
                      have da4 : decide ((S : Int) < (mid : Int)) = true := decide_eq_true (by omega)
                      have da4n : decide (S < mid) = true := decide_eq_true (by omega)
                      have da5 : decide ((mid : Int) < (E : Int)) = false := decide_eq_false (by omega)
                      have da5n : decide (mid < E) = false := decide_eq_false (by omega)
                      have da6 : decide ((E : Int) < (b : Int)) = true := decide_eq_true (by omega)
                      have da6n : decide (E < b) = true := decide_eq_true (by omega)
                      obtain ⟨w5, hw5⟩ : ∃ z, wq = z := ⟨_, rfl⟩
                      have HB5 : Hid (Below B0 w w5) := Lib.hid (by rw [← hw5]; exact HBk.out)
                      have HO5 : Hid (Ow eF 1 w5 B0 2 (.slice (some ⟨g, 0, none⟩) n c) n ((A ++ U1) ++ (V1 ++ (U2 ++ (V2 ++ B))))) := Lib.hid (by
                        have h9 := HO4.out
                        rw [hw5] at h9
                        have hnil : U2 = [] := List.eq_nil_of_length_eq_zero (by rw [HU2.out]; omega)
                        rw [hnil] at h9 ⊢
                        exact h9)
                      rw [hw5]
                      clear hw5
                      have hs5 : B0 ≤ w5.heap.size := Nat.le_trans hB0 HB5.out.size
                      obtain ⟨w6, hw6⟩ : ∃ z, w5 = z := ⟨_, rfl⟩
                      have HB6 : Hid (Below B0 w w6) := Lib.hid (by rw [← hw6]; exact HB5.out)
                      have HO6 : Hid (Ow eF 1 w6 B0 2 (.slice (some ⟨g, 0, none⟩) n c) n (A ++ ((U1 ++ V1) ++ (U2 ++ (V2 ++ B))))) := Lib.hid (by have h9 := HO5.out; rw [hw6] at h9; rw [List.append_assoc] at h9; rw [List.append_assoc]; exact h9)
                      have HD1 : Hid (SyD (slR key) (U1 ++ V1) (U1 ++ V1)) := Lib.hid (merge_nilV HQL.out (.inl (List.eq_nil_of_length_eq_zero (by rw [HU1.out]; omega))))
                      obtain ⟨W1, hW1⟩ : ∃ z, U1 ++ V1 = z := ⟨_, rfl⟩
                      rw [hW1] at HO6
                      have HD1 : Hid (SyD (slR key) (U1 ++ V1) W1) := Lib.hid (by have h9 := HD1.out; rw [hW1] at h9 ⊢; exact h9)
                      rw [hw6]
                      clear hw6 hW1 hs5
                      have hW1l : W1.length = mid - a := by rw [HD1.out.1.length_eq, List.length_append, HU1.out, HV1.out]; omega
                      have hs6 : B0 ≤ w6.heap.size := Nat.le_trans hB0 HB6.out.size
                      have HD2 := Lib.hid (merge_nilV HQR.out (.inl (List.eq_nil_of_length_eq_zero (by rw [HU2.out]; omega))))
                      go_wp2_with fail
                      go_end0
                      exact ⟨rfl, W1 ++ (U2 ++ V2), HFIN.out _ _ HD1.out HD2.out, by have h9 := HO6.out; rw [List.append_assoc, List.append_assoc]; exact h9, HB6.out⟩
                    · have da1 : decide ((S : Int) < (m : Int)) = false := decide_eq_false (by omega)
                      have da1n : decide (S < m) = false := decide_eq_false (by omega)
                      have da2 : decide ((m : Int) < (E : Int)) = true := decide_eq_true (by omega)
                      have da2n : decide (m < E) = true := decide_eq_true (by omega)
                      have da3 : decide ((a : Int) < (S : Int)) = false := decide_eq_false (by omega)
                      have da3n : decide (a < S) = false := decide_eq_false (by omega)
                      have da4 : decide ((S : Int) < (mid : Int)) = true := decide_eq_true (by omega)
                      have da4n : decide (S < mid) = true := decide_eq_true (by omega)
                      have da5 : decide ((mid : Int) < (E : Int)) = false := decide_eq_false (by omega)
                      have da5n : decide (mid < E) = false := decide_eq_false (by omega)
                      have da6 : decide ((E : Int) < (b : Int)) = false := decide_eq_false (by omega)
                      have da6n : decide (E < b) = false := decide_eq_false (by omega)
                      obtain ⟨w5, hw5⟩ : ∃ z, wq = z := ⟨_, rfl⟩
                      have HB5 : Hid (Below B0 w w5) := Lib.hid (by rw [← hw5]; exact HBk.out)
                      have HO5 : Hid (Ow eF 1 w5 B0 2 (.slice (some ⟨g, 0, none⟩) n c) n ((A ++ U1) ++ (V1 ++ (U2 ++ (V2 ++ B))))) := Lib.hid (by
                        have h9 := HO4.out
                        rw [hw5] at h9
                        have hnil : U2 = [] := List.eq_nil_of_length_eq_zero (by rw [HU2.out]; omega)
                        rw [hnil] at h9 ⊢
                        exact h9)
                      rw [hw5]
                      clear hw5
                      have hs5 : B0 ≤ w5.heap.size := Nat.le_trans hB0 HB5.out.size
                      obtain ⟨w6, hw6⟩ : ∃ z, w5 = z := ⟨_, rfl⟩
                      have HB6 : Hid (Below B0 w w6) := Lib.hid (by rw [← hw6]; exact HB5.out)
                      have HO6 : Hid (Ow eF 1 w6 B0 2 (.slice (some ⟨g, 0, none⟩) n c) n (A ++ ((U1 ++ V1) ++ (U2 ++ (V2 ++ B))))) := Lib.hid (by have h9 := HO5.out; rw [hw6] at h9; rw [List.append_assoc] at h9; rw [List.append_assoc]; exact h9)
                      have HD1 : Hid (SyD (slR key) (U1 ++ V1) (U1 ++ V1)) := Lib.hid (merge_nilV HQL.out (.inl (List.eq_nil_of_length_eq_zero (by rw [HU1.out]; omega))))
                      obtain ⟨W1, hW1⟩ : ∃ z, U1 ++ V1 = z := ⟨_, rfl⟩
                      rw [hW1] at HO6
                      have HD1 : Hid (SyD (slR key) (U1 ++ V1) W1) := Lib.hid (by have h9 := HD1.out; rw [hW1] at h9 ⊢; exact h9)
                      rw [hw6]
                      clear hw6 hW1 hs5
                      have hW1l : W1.length = mid - a := by rw [HD1.out.1.length_eq, List.length_append, HU1.out, HV1.out]; omega
                      have hs6 : B0 ≤ w6.heap.size := Nat.le_trans hB0 HB6.out.size
                      have HD2 := Lib.hid (merge_nilV HQR.out (.inl (List.eq_nil_of_length_eq_zero (by rw [HU2.out]; omega))))
                      go_wp2_with fail
                      go_end0
                      exact ⟨rfl, W1 ++ (U2 ++ V2), HFIN.out _ _ HD1.out HD2.out, by have h9 := HO6.out; rw [List.append_assoc, List.append_assoc]; exact h9, HB6.out⟩
                · by_cases kr : a < S
                  · by_cases kv : E < b
                    · have da1 : decide ((S : Int) < (m : Int)) = false := decide_eq_false (by omega)
                      have da1n : decide (S < m) = false := decide_eq_false (by omega)
                      have da2 : decide ((m : Int) < (E : Int)) = false := decide_eq_false (by omega)
                      have da2n : decide (m < E) = false := decide_eq_false (by omega)
                      have da3 : decide ((a : Int) < (S : Int)) = true := decide_eq_true (by omega)
                      have da3n : decide (a < S) = true := decide_eq_true (by omega)
                      have da4 : decide ((S : Int) < (mid : Int)) = false := decide_eq_false (by omega)
                      have da4n : decide (S < mid) = false := decide_eq_false (by omega)
                      have da5 : decide ((mid : Int) < (E : Int)) = false := decide_eq_false (by omega)
                      have da5n : decide (mid < E) = false := decide_eq_false (by omega)
                      have da6 : decide ((E : Int) < (b : Int)) = true := decide_eq_true (by omega)
                      have da6n : decide (E < b) = true := decide_eq_true (by omega)
                      obtain ⟨w5, hw5⟩ : ∃ z, wq = z := ⟨_, rfl⟩
                      have HB5 : Hid (Below B0 w w5) := Lib.hid (by rw [← hw5]; exact HBk.out)
                      have HO5 : Hid (Ow eF 1 w5 B0 2 (.slice (some ⟨g, 0, none⟩) n c) n ((A ++ U1) ++ (V1 ++ (U2 ++ (V2 ++ B))))) := Lib.hid (by
                        have h9 := HO4.out
                        rw [hw5] at h9
                        have hnil : U2 = [] := List.eq_nil_of_length_eq_zero (by rw [HU2.out]; omega)
                        rw [hnil] at h9 ⊢
                        exact h9)
                      rw [hw5]
                      clear hw5
                      have hs5 : B0 ≤ w5.heap.size := Nat.le_trans hB0 HB5.out.size
                      obtain ⟨w6, hw6⟩ : ∃ z, w5 = z := ⟨_, rfl⟩
                      have HB6 : Hid (Below B0 w w6) := Lib.hid (by rw [← hw6]; exact HB5.out)
                      have HO6 : Hid (Ow eF 1 w6 B0 2 (.slice (some ⟨g, 0, none⟩) n c) n (A ++ ((U1 ++ V1) ++ (U2 ++ (V2 ++ B))))) := Lib.hid (by have h9 := HO5.out; rw [hw6] at h9; rw [List.append_assoc] at h9; rw [List.append_assoc]; exact h9)
                      have HD1 : Hid (SyD (slR key) (U1 ++ V1) (U1 ++ V1)) := Lib.hid (merge_nilV HQL.out (.inr (List.eq_nil_of_length_eq_zero (by rw [HV1.out]; omega))))
                      obtain ⟨W1, hW1⟩ : ∃ z, U1 ++ V1 = z := ⟨_, rfl⟩
                      rw [hW1] at HO6
                      have HD1 : Hid (SyD (slR key) (U1 ++ V1) W1) := Lib.hid (by have h9 := HD1.out; rw [hW1] at h9 ⊢; exact h9)
                      rw [hw6]
                      clear hw6 hW1 hs5
                      have hW1l : W1.length = mid - a := by rw [HD1.out.1.length_eq, List.length_append, HU1.out, HV1.out]; omega
                      have hs6 : B0 ≤ w6.heap.size := Nat.le_trans hB0 HB6.out.size
                      have HD2 := Lib.hid (merge_nilV HQR.out (.inl (List.eq_nil_of_length_eq_zero (by rw [HU2.out]; omega))))
                      go_wp2_with fail
                      go_end0
                      exact ⟨rfl, W1 ++ (U2 ++ V2), HFIN.out _ _ HD1.out HD2.out, by have h9 := HO6.out; rw [List.append_assoc, List.append_assoc]; exact h9, HB6.out⟩
                    · have da1 : decide ((S : Int) < (m : Int)) = false := decide_eq_false (by omega)
                      have da1n : decide (S < m) = false := decide_eq_false (by omega)
                      have da2 : decide ((m : Int) < (E : Int)) = false := decide_eq_false (by omega)
                      have da2n : decide (m < E) = false := decide_eq_false (by omega)
                      have da3 : decide ((a : Int) < (S : Int)) = true := decide_eq_true (by omega)
                      have da3n : decide (a < S) = true := decide_eq_true (by omega)
                      have da4 : decide ((S : Int) < (mid : Int)) = false := decide_eq_false (by omega)
                      have da4n : decide (S < mid) = false := decide_eq_false (by omega)
                      have da5 : decide ((mid : Int) < (E : Int)) = false := decide_eq_false (by omega)
                      have da5n : decide (mid < E) = false := decide_eq_false (by omega)
                      have da6 : decide ((E : Int) < (b : Int)) = false := decide_eq_false (by omega)
                      have da6n : decide (E < b) = false := decide_eq_false (by omega)
                      obtain ⟨w5, hw5⟩ : ∃ z, wq = z := ⟨_, rfl⟩
                      have HB5 : Hid (Below B0 w w5) := Lib.hid (by rw [← hw5]; exact HBk.out)
                      have HO5 : Hid (Ow eF 1 w5 B0 2 (.slice (some ⟨g, 0, none⟩) n c) n ((A ++ U1) ++ (V1 ++ (U2 ++ (V2 ++ B))))) := Lib.hid (by
                        have h9 := HO4.out
                        rw [hw5] at h9
                        have hnil : U2 = [] := List.eq_nil_of_length_eq_zero (by rw [HU2.out]; omega)
                        rw [hnil] at h9 ⊢
                        exact h9)
                      rw [hw5]
                      clear hw5
                      have hs5 : B0 ≤ w5.heap.size := Nat.le_trans hB0 HB5.out.size
                      obtain ⟨w6, hw6⟩ : ∃ z, w5 = z := ⟨_, rfl⟩
                      have HB6 : Hid (Below B0 w w6) := Lib.hid (by rw [← hw6]; exact HB5.out)
                      have HO6 : Hid (Ow eF 1 w6 B0 2 (.slice (some ⟨g, 0, none⟩) n c) n (A ++ ((U1 ++ V1) ++ (U2 ++ (V2 ++ B))))) := Lib.hid (by have h9 := HO5.out; rw [hw6] at h9; rw [List.append_assoc] at h9; rw [List.append_assoc]; exact h9)
                      have HD1 : Hid (SyD (slR key) (U1 ++ V1) (U1 ++ V1)) := Lib.hid (merge_nilV HQL.out (.inr (List.eq_nil_of_length_eq_zero (by rw [HV1.out]; omega))))
                      obtain ⟨W1, hW1⟩ : ∃ z, U1 ++ V1 = z := ⟨_, rfl⟩
                      rw [hW1] at HO6
                      have HD1 : Hid (SyD (slR key) (U1 ++ V1) W1) := Lib.hid (by have h9 := HD1.out; rw [hW1] at h9 ⊢; exact h9)
                      rw [hw6]
                      clear hw6 hW1 hs5
                      have hW1l : W1.length = mid - a := by rw [HD1.out.1.length_eq, List.length_append, HU1.out, HV1.out]; omega
                      have hs6 : B0 ≤ w6.heap.size := Nat.le_trans hB0 HB6.out.size
                      have HD2 := Lib.hid (merge_nilV HQR.out (.inl (List.eq_nil_of_length_eq_zero (by rw [HU2.out]; omega))))
                      go_wp2_with fail
                      go_end0
                      exact ⟨rfl, W1 ++ (U2 ++ V2), HFIN.out _ _ HD1.out HD2.out, by have h9 := HO6.out; rw [List.append_assoc, List.append_assoc]; exact h9, HB6.out⟩
                  · by_cases kv : E < b
                    · have da1 : decide ((S : Int) < (m : Int)) = false := decide_eq_false (by omega)
                      have da1n : decide (S < m) = false := decide_eq_false (by omega)
                      have da2 : decide ((m : Int) < (E : Int)) = false := decide_eq_false (by omega)
                      have da2n : decide (m < E) = false := decide_eq_false (by omega)
                      have da3 : decide ((a : Int) < (S : Int)) = false := decide_eq_false (by omega)
                      have da3n : decide (a < S) = false := decide_eq_false (by omega)
                      have da4 : decide ((S : Int) < (mid : Int)) = false := decide_eq_false (by omega)
                      have da4n : decide (S < mid) = false := decide_eq_false (by omega)
                      have da5 : decide ((mid : Int) < (E : Int)) = false := decide_eq_false (by omega)
                      have da5n : decide (mid < E) = false := decide_eq_false (by omega)
                      have da6 : decide ((E : Int) < (b : Int)) = true := decide_eq_true (by omega)
                      have da6n : decide (E < b) = true := decide_eq_true (by omega)
                      obtain ⟨w5, hw5⟩ : ∃ z, wq = z := ⟨_, rfl⟩
                      have HB5 : Hid (Below B0 w w5) := Lib.hid (by rw [← hw5]; exact HBk.out)
                      have HO5 : Hid (Ow eF 1 w5 B0 2 (.slice (some ⟨g, 0, none⟩) n c) n ((A ++ U1) ++ (V1 ++ (U2 ++ (V2 ++ B))))) := Lib.hid (by
                        have h9 := HO4.out
                        rw [hw5] at h9
                        have hnil : U2 = [] := List.eq_nil_of_length_eq_zero (by rw [HU2.out]; omega)
                        rw [hnil] at h9 ⊢
                        exact h9)
                      rw [hw5]
                      clear hw5
                      have hs5 : B0 ≤ w5.heap.size := Nat.le_trans hB0 HB5.out.size
                      obtain ⟨w6, hw6⟩ : ∃ z, w5 = z := ⟨_, rfl⟩
                      have HB6 : Hid (Below B0 w w6) := Lib.hid (by rw [← hw6]; exact HB5.out)
                      have HO6 : Hid (Ow eF 1 w6 B0 2 (.slice (some ⟨g, 0, none⟩) n c) n (A ++ ((U1 ++ V1) ++ (U2 ++ (V2 ++ B))))) := Lib.hid (by have h9 := HO5.out; rw [hw6] at h9; rw [List.append_assoc] at h9; rw [List.append_assoc]; exact h9)
                      have HD1 : Hid (SyD (slR key) (U1 ++ V1) (U1 ++ V1)) := Lib.hid (merge_nilV HQL.out (.inl (List.eq_nil_of_length_eq_zero (by rw [HU1.out]; omega))))
                      obtain ⟨W1, hW1⟩ : ∃ z, U1 ++ V1 = z := ⟨_, rfl⟩
                      rw [hW1] at HO6
                      have HD1 : Hid (SyD (slR key) (U1 ++ V1) W1) := Lib.hid (by have h9 := HD1.out; rw [hW1] at h9 ⊢; exact h9)
                      rw [hw6]
                      clear hw6 hW1 hs5
                      have hW1l : W1.length = mid - a := by rw [HD1.out.1.length_eq, List.length_append, HU1.out, HV1.out]; omega
                      have hs6 : B0 ≤ w6.heap.size := Nat.le_trans hB0 HB6.out.size
                      have HD2 := Lib.hid (merge_nilV HQR.out (.inl (List.eq_nil_of_length_eq_zero (by rw [HU2.out]; omega))))
                      go_wp2_with fail
                      go_end0
                      exact ⟨rfl, W1 ++ (U2 ++ V2), HFIN.out _ _ HD1.out HD2.out, by have h9 := HO6.out; rw [List.append_assoc, List.append_assoc]; exact h9, HB6.out⟩
                    · have da1 : decide ((S : Int) < (m : Int)) = false := decide_eq_false (by omega)
                      have da1n : decide (S < m) = false := decide_eq_false (by omega)
                      have da2 : decide ((m : Int) < (E : Int)) = false := decide_eq_false (by omega)
                      have da2n : decide (m < E) = false := decide_eq_false (by omega)
                      have da3 : decide ((a : Int) < (S : Int)) = false := decide_eq_false (by omega)
                      have da3n : decide (a < S) = false := decide_eq_false (by omega)
                      have da4 : decide ((S : Int) < (mid : Int)) = false := decide_eq_false (by omega)
                      have da4n : decide (S < mid) = false := decide_eq_false (by omega)
                      have da5 : decide ((mid : Int) < (E : Int)) = false := decide_eq_false (by omega)
                      have da5n : decide (mid < E) = false := decide_eq_false (by omega)
                      have da6 : decide ((E : Int) < (b : Int)) = false := decide_eq_false (by omega)
                      have da6n : decide (E < b) = false := decide_eq_false (by omega)
                      obtain ⟨w5, hw5⟩ : ∃ z, wq = z := ⟨_, rfl⟩
                      have HB5 : Hid (Below B0 w w5) := Lib.hid (by rw [← hw5]; exact HBk.out)
                      have HO5 : Hid (Ow eF 1 w5 B0 2 (.slice (some ⟨g, 0, none⟩) n c) n ((A ++ U1) ++ (V1 ++ (U2 ++ (V2 ++ B))))) := Lib.hid (by
                        have h9 := HO4.out
                        rw [hw5] at h9
                        have hnil : U2 = [] := List.eq_nil_of_length_eq_zero (by rw [HU2.out]; omega)
                        rw [hnil] at h9 ⊢
                        exact h9)
                      rw [hw5]
                      clear hw5
                      have hs5 : B0 ≤ w5.heap.size := Nat.le_trans hB0 HB5.out.size
                      obtain ⟨w6, hw6⟩ : ∃ z, w5 = z := ⟨_, rfl⟩
                      have HB6 : Hid (Below B0 w w6) := Lib.hid (by rw [← hw6]; exact HB5.out)
                      have HO6 : Hid (Ow eF 1 w6 B0 2 (.slice (some ⟨g, 0, none⟩) n c) n (A ++ ((U1 ++ V1) ++ (U2 ++ (V2 ++ B))))) := Lib.hid (by have h9 := HO5.out; rw [hw6] at h9; rw [List.append_assoc] at h9; rw [List.append_assoc]; exact h9)
                      have HD1 : Hid (SyD (slR key) (U1 ++ V1) (U1 ++ V1)) := Lib.hid (merge_nilV HQL.out (.inl (List.eq_nil_of_length_eq_zero (by rw [HU1.out]; omega))))
                      obtain ⟨W1, hW1⟩ : ∃ z, U1 ++ V1 = z := ⟨_, rfl⟩
                      rw [hW1] at HO6
                      have HD1 : Hid (SyD (slR key) (U1 ++ V1) W1) := Lib.hid (by have h9 := HD1.out; rw [hW1] at h9 ⊢; exact h9)
                      rw [hw6]
                      clear hw6 hW1 hs5
                      have hW1l : W1.length = mid - a := by rw [HD1.out.1.length_eq, List.length_append, HU1.out, HV1.out]; omega
                      have hs6 : B0 ≤ w6.heap.size := Nat.le_trans hB0 HB6.out.size
                      have HD2 := Lib.hid (merge_nilV HQR.out (.inl (List.eq_nil_of_length_eq_zero (by rw [HU2.out]; omega))))
                      go_wp2_with fail
                      go_end0
                      exact ⟨rfl, W1 ++ (U2 ++ V2), HFIN.out _ _ HD1.out HD2.out, by have h9 := HO6.out; rw [List.append_assoc, List.append_assoc]; exact h9, HB6.out⟩
end Go.Proofs.YthmiahekijeehaaGreat
