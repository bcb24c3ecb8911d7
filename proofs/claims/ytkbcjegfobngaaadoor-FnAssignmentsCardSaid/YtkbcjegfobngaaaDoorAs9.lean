/-
  The greedy assignment.
-/
import Derived.Test.YtkbcjegfobngaaaDoorAsR
import Derived.Test.YtkbcjegfobngaaaDoorAs3
import Derived.Deep.LoopGhost
namespace Go.Proofs.YtkbcjegfobngaaaDoor
open Go.RowKit
set_option maxRecDepth 100000
set_option linter.unusedVariables false
set_option linter.unusedSimpArgs false
def frees (G : List Int) : Nat := (G.filter fun x => decide (x < 0)).length
theorem frees_set {G : List Int} {o : Nat} {x : Int} (ho : o < G.length) (h : at_ G o < 0) (hx : 0 ≤ x) : frees (G.set o x) < frees G := by
  induction G generalizing o with
  | nil => simp at ho
  | cons y ys ih =>
    cases o with
    | zero =>
      have hy : y < 0 := h
      unfold frees
      rw [List.set_cons_zero, List.filter_cons_of_neg (by simp; omega), List.filter_cons_of_pos (by simpa using hy)]
      exact Nat.lt_succ_self _
    | succ o =>
      have h2 := ih (o := o) (by simpa using ho) (by simpa [at_] using h)
      unfold frees at h2 ⊢
      rw [List.set_cons_succ, List.filter_cons, List.filter_cons]
      split
      · simp only [List.length_cons]; omega
      · exact h2
/-- what a scan up to the star k of the observer i has found -/
structure ScanQ (W : Nat → Nat → Int) (G : List Int) (m n i k : Nat) (ov sv mv : Int) : Prop where
  best : (ov = -1 ∧ mv = 0) ∨ ∃ o s : Nat, ov = o ∧ sv = s ∧ o < m ∧ s < n ∧ at_ G o < 0 ∧ ¬ (s : Int) ∈ G ∧ W o s = mv ∧ 0 < mv
  max : ∀ i' k', k' < n → (i' < i ∨ i' = i ∧ k' < k) → at_ G i' < 0 → ¬ (k' : Int) ∈ G → W i' k' ≤ mv
theorem ScanQ.mv0 {W : Nat → Nat → Int} {G : List Int} {m n i k : Nat} {ov sv mv : Int} (h : ScanQ W G m n i k ov sv mv) : 0 ≤ mv := by
  rcases h.best with ⟨_, h⟩ | ⟨_, _, _, _, _, _, _, _, _, h⟩ <;> omega
theorem ScanQ.zero (W : Nat → Nat → Int) (G : List Int) (m n : Nat) (sv : Int) : ScanQ W G m n 0 0 (-1) sv 0 := ⟨.inl ⟨rfl, rfl⟩, fun i' k' _ h => by omega⟩
theorem ScanQ.row {W : Nat → Nat → Int} {G : List Int} {m n i : Nat} {ov sv mv : Int} (h : ScanQ W G m n i n ov sv mv) : ScanQ W G m n (i + 1) 0 ov sv mv := ⟨h.best, fun i' k' hk h2 => h.max i' k' hk (by omega)⟩
theorem ScanQ.skip {W : Nat → Nat → Int} {G : List Int} {m n i k : Nat} {ov sv mv : Int} (h : ScanQ W G m n i k ov sv mv) (h2 : at_ G i < 0 → ¬ (k : Int) ∈ G → W i k ≤ mv) : ScanQ W G m n i (k + 1) ov sv mv := ⟨h.best, fun i' k' hk h3 h4 h5 => by
  by_cases c : i' = i ∧ k' = k
  · obtain ⟨rfl, rfl⟩ := c; exact h2 h4 h5
  · exact h.max i' k' hk (by omega) h4 h5⟩
theorem ScanQ.take {W : Nat → Nat → Int} {G : List Int} {m n i k : Nat} {ov sv mv x : Int} (h : ScanQ W G m n i k ov sv mv) (hi : i < m) (hk : k < n) (h1 : at_ G i < 0) (h2 : ¬ (k : Int) ∈ G) (hx : W i k = x) (hm : mv < x) : ScanQ W G m n i (k + 1) i k x := ⟨.inr ⟨i, k, rfl, rfl, hi, hk, h1, h2, hx, by have := h.mv0; omega⟩, fun i' k' hk' h3 h4 h5 => by
  by_cases c : i' = i ∧ k' = k
  · obtain ⟨rfl, rfl⟩ := c; omega
  · have := h.max i' k' hk' (by omega) h4 h5; omega⟩
set_option maxHeartbeats 4000000 in
theorem greedyA (m n : Nat) (rs : List GRow) (a : Option Addr) (c : Nat) (w : World) (hw : WtQ m n rs) (hg : GrR w a rs) : Calls Tryd.prog 8 #[.slice a m c] w fun e w' => ∃ (a' : Option Addr) (c' : Nat) (G : List Int), e = .returned (.tuple #[.slice a' m c', .int .i64 0]) ∧ m ≤ c' ∧ AsQ m n G ∧ (∀ A, AsQ m n A → sumN (trm (wF rs) A) m ≤ 2 * sumN (trm (wF rs) G) m) ∧ Rd eI 1 w' a' G ∧ Below w.heap.size w w' := by
  have HW := Lib.hid hw
  have HG := Lib.hid hg
  have hn4 := hw.n4
  have hn1 := hw.n1
  have hm4 := hw.m4
  have hm1 := hw.m1
  clear hw hg
  go_enter Tryd.func8, Tryd.ntmps8
  go_wp2_with fail
  refine (validWA m n rs a c _ HW.out HG.out).mono ?_
  rintro e w1 ⟨rfl, hb1⟩
  have HG1 := Lib.hid (HG.out.below hb1)
  have HB1 := Lib.hid hb1
  clear hb1
  go_upto_region 3 with (fail)
  go_wp2_with fail
  obtain ⟨hcx, hbb, hsz⟩ := bx1 w1 #[.int .i64 (-1)] 2
  have hcb : (w1.alloc (.cells #[.int .i64 (-1)] 2)).cell? ⟨w1.heap.size, 0, none⟩ = some (.int .i64 (-1)) := hcx.cell 0
  clear hcx hsz
  refine (repeatA m _ _ hm1 hm4 hcb).mono ?_
  rintro e w2 ⟨g, rfl, ho2, hb2⟩
  obtain ⟨N, hN⟩ : ∃ N, (w1.alloc (.cells #[.int .i64 (-1)] 2)).heap.size = N := ⟨_, rfl⟩
  rw [hN] at ho2 hb2
  have hN1 : w1.heap.size ≤ N := by rw [← hN]; exact hbb.size
  have hb12 : Below w1.heap.size w1 w2 := hbb.trans (hb2.mono hN1)
  have HG2 := Lib.hid (HG1.out.below hb12)
  have HB2 := Lib.hid (HB1.out.trans (hb12.mono HB1.out.size))
  have hgN : N ≤ g := by
    rcases ho2.2 with ⟨h, _⟩ | ⟨g', cap, cur, h, h9, _⟩
    · cases h
    · cases h; exact h9
  have hbg : w2.heap.size ≤ w2.heap.size := Nat.le_refl _
  have HO2 := Lib.hid ho2
  have HB12 := Lib.hid hb12
  have hN2 : N ≤ w2.heap.size := by have := hb2.size; omega
  clear hcb hbb ho2 hb2 hb12 hN
  go_wp2_with fail
  go_loopg [5] (frees (List.replicate m (-1))) (fun gk ov wr => ∃ G : List Int, ov = ov ∧ Hid (GreI (wF rs) m n G) ∧ Hid (frees G = gk) ∧ Hid (Ow eI 1 wr N 2 (.slice (some ⟨g, 0, none⟩) m m) m G) ∧ Hid (Below w1.heap.size w1 wr) ∧ N ≤ wr.heap.size)
  case atStart => exact ⟨_, rfl, Lib.hid (GreI.zero hn1), Lib.hid rfl, HO2, HB12, hN2⟩
  case round =>
  obtain ⟨G, -, HGI, HFR, HOA, HBA, hNA⟩ := hrel
  obtain ⟨wA, hwA⟩ : ∃ wx, wx = wr := ⟨_, rfl⟩
  subst hwA
  have HGA := Lib.hid (HG1.out.below HBA.out)
  obtain ⟨b0, oo, hab, hC⟩ := HGA.out.1.addr1 (f := fun r : GRow => Value.slice r.a r.n r.c) (by rw [HW.out.len]; omega) (fun _ => rfl)
  subst hab
  have HC := Lib.hid hC
  have HGL : Hid (G.length = m) := Lib.hid HGI.out.q.len
  have HRG : Hid (Rd eI 1 wA (some ⟨g, 0, none⟩) G) := Lib.hid (HOA.out.rd eI_len (by decide))
  clear hC HO2 HB12 HB2 HG2
  go_wp2_with fail
  go_loopw [5, 6, 7, 21] (fun ov sv mv iv wr => ∃ (k : Nat) (oz sz mz : Int), k ≤ m ∧ iv = .int .i64 k ∧ ov = .int .i64 oz ∧ sv = .int .i64 sz ∧ mv = .int .i64 mz ∧ Hid (ScanQ (wF rs) G m n k 0 oz sz mz) ∧ Hid (wA = wr)) (fun _ _ _ iv _ => m - (intOf iv).toNat)
  case atStart => exact ⟨0, _, _, _, Nat.zero_le _, rfl, rfl, rfl, rfl, Lib.hid (ScanQ.zero _ _ _ _ _), Lib.hid rfl⟩
  case round =>
  obtain ⟨k, oz, sz, mz, hk, rfl, rfl, rfl, rfl, HSC, HWA⟩ := hrel
  have hwa := HWA.out
  subst hwa
  clear HWA
  by_cases hlt : k < m
  · obtain ⟨ri, hri, f1, f2, f3⟩ := HW.out.at_ hlt
    have y5 : wA.cell? ⟨b0, oo + k, none⟩ = some (.slice ri.a ri.n ri.c) := HC.out k ri hri wA (Below.refl _ _)
    rw [f1] at y5
    have v2 := (HGA.out.2 ri (List.mem_of_getElem? hri)).1
    obtain ⟨b3, o3, hab3, hC3⟩ := v2.addr1 (f := fun x => Value.int .i64 x) (by rw [f2]; omega) (fun _ => rfl)
    rw [hab3] at y5
    have HC3 := Lib.hid hC3
    have HRI := Lib.hid hri
    have HF2 := Lib.hid f2
    have j0 : (0 : Int) ≤ (k : Nat) := by omega
    have j1 : ((k : Nat) : Int) < (m : Nat) := by omega
    clear hri f1 f2 f3 v2 hab3 hC3
    go_wp2_with fail
    clear y5
    go_loopw [5, 6, 7, 28] (fun ov sv mv kv wr => ∃ (q : Nat) (oz sz mz : Int), q ≤ n ∧ kv = .int .i64 q ∧ ov = .int .i64 oz ∧ sv = .int .i64 sz ∧ mv = .int .i64 mz ∧ Hid (ScanQ (wF rs) G m n k q oz sz mz) ∧ Hid (wA = wr)) (fun _ _ _ kv _ => n - (intOf kv).toNat)
    case atStart => exact ⟨0, _, _, _, Nat.zero_le _, rfl, rfl, rfl, rfl, HSC, Lib.hid rfl⟩
    case round =>
    clear HSC
    obtain ⟨q, oz, sz, mz, hq, rfl, rfl, rfl, rfl, HSC, HWA⟩ := hrel
    have hwa := HWA.out
    subst hwa
    clear HWA
    by_cases hqn : q < n
    · obtain ⟨x, hx⟩ : ∃ z, ri.xs[q]? = some z := ⟨_, List.getElem?_eq_getElem (by rw [HF2.out]; exact hqn)⟩
      have y6 : wA.cell? ⟨b3, o3 + q, none⟩ = some (.int .i64 x) := HC3.out q x hx wA (Below.refl _ _)
      have HWX : Hid (wF rs k q = x) := Lib.hid (wF_eq HRI.out hx)
      obtain ⟨gi, hgi⟩ : ∃ z, G[k]? = some z := ⟨_, List.getElem?_eq_getElem (by rw [HGL.out]; exact hlt)⟩
      have HGI2 : Hid (at_ G k = gi) := Lib.hid (at_some hgi)
      obtain ⟨b4, o4, he4, hc4⟩ := HRG.out.at1 hgi (u := .int .i64 gi) rfl
      have y7 : wA.cell? ⟨g, k, none⟩ = some (.int .i64 gi) := by have := hc4.2; cases he4; rwa [Nat.zero_add] at this
      have jq0 : (0 : Int) ≤ (q : Nat) := by omega
      have jq1 : ((q : Nat) : Int) < (n : Nat) := by omega
      have jk : k < m := hlt
      clear hx hgi hc4 he4
      cases hd : decide (gi < 0) with
      | false =>
        have HSN : Hid (ScanQ (wF rs) G m n k (q + 1) oz sz mz) := Lib.hid (HSC.out.skip fun h1 _ => absurd (HGI2.out ▸ h1) (of_decide_eq_false hd))
        go_wp2_with fail
        go_roundw
        case rel => exact ⟨q + 1, oz, sz, mz, by omega, by go_num, rfl, rfl, rfl, HSN, Lib.hid (by trivial)⟩
        case measure => simp [intOf]; omega
      | true =>
        have HGN : Hid (at_ G k < 0) := Lib.hid (by rw [HGI2.out]; exact of_decide_eq_true hd)
        cases hf : G.contains (q : Int) with
        | true =>
          have HSN : Hid (ScanQ (wF rs) G m n k (q + 1) oz sz mz) := Lib.hid (HSC.out.skip fun _ h1 => absurd (by simpa using hf) h1)
          have HF := Lib.hid hf
          clear hf
          go_wp2_with fail
          refine (slHasA G (q : Int) _ m m _ (by omega) HGL.out HRG.out).mono ?_
          rintro e wz ⟨rfl, rfl⟩
          rw [HF.out]
          go_wp2_with fail
          go_roundw
          case rel => exact ⟨q + 1, oz, sz, mz, by omega, by go_num, rfl, rfl, rfl, HSN, Lib.hid (by trivial)⟩
          case measure => simp [intOf]; omega
        | false =>
          have HF := Lib.hid hf
          clear hf
          cases hm : decide (mz < x) with
          | false =>
            have HSN : Hid (ScanQ (wF rs) G m n k (q + 1) oz sz mz) := Lib.hid (HSC.out.skip fun _ _ => by have := of_decide_eq_false hm; rw [HWX.out]; omega)
            go_wp2_with fail
            refine (slHasA G (q : Int) _ m m _ (by omega) HGL.out HRG.out).mono ?_
            rintro e wz ⟨rfl, rfl⟩
            rw [HF.out]
            go_wp2_with fail
            go_roundw
            case rel => exact ⟨q + 1, oz, sz, mz, by omega, by go_num, rfl, rfl, rfl, HSN, Lib.hid (by trivial)⟩
            case measure => simp [intOf]; omega
          | true =>
            have HSN : Hid (ScanQ (wF rs) G m n k (q + 1) (k : Int) (q : Int) x) := Lib.hid (HSC.out.take hlt hqn HGN.out (by simpa using HF.out) HWX.out (of_decide_eq_true hm))
            go_wp2_with fail
            refine (slHasA G (q : Int) _ m m _ (by omega) HGL.out HRG.out).mono ?_
            rintro e wz ⟨rfl, rfl⟩
            rw [HF.out]
            go_wp2_with fail
            go_roundw
            case rel => exact ⟨q + 1, _, _, _, by omega, by go_num, rfl, rfl, rfl, HSN, Lib.hid (by trivial)⟩
            case measure => simp [intOf]; omega
    · obtain rfl : n = q := by omega
      have HSN := Lib.hid HSC.out.row
      go_wp2_with fail
      go_roundw
      case rel => exact ⟨k + 1, oz, sz, mz, by omega, by go_num, rfl, rfl, rfl, HSN, Lib.hid (by trivial)⟩
      case measure => simp [intOf]; omega
  · obtain rfl : m = k := by omega
    have HSF := HSC
    clear HSC
    rcases HSF.out.best with ⟨e1, e2⟩ | ⟨o1, s1, e1, e2, ho, hs, hfo, hfs, hmx, hm0⟩
    · subst e1
      subst e2
      have HFIN : Hid (∀ A, AsQ m n A → sumN (trm (wF rs) A) m ≤ 2 * sumN (trm (wF rs) G) m) := Lib.hid fun A hA => HGI.out.done hA fun i k hi hk h1 h2 => HSF.out.max i k hk (.inl hi) h1 h2
      have HBF := Lib.hid (HB1.out.trans (HBA.out.mono HB1.out.size))
      go_wp2_with fail
      go_ret2
      exact ⟨_, _, G, rfl, Nat.le_refl _, HGI.out.q, HFIN.out, HRG.out, HBF.out⟩
    · subst e1
      subst e2
      have HGN : Hid (GreI (wF rs) m n (G.set o1 s1)) := Lib.hid (HGI.out.step ho hs hfo hfs (by omega) (fun i k => (HW.out.bd i k).1) fun i k hi hk h1 h2 => by rw [hmx]; exact HSF.out.max i k hk (.inl hi) h1 h2)
      have HFN : Hid (frees (G.set o1 s1) < frees G) := Lib.hid (frees_set (by rw [HGL.out]; exact ho) hfo (by omega))
      have dd : decide ((o1 : Int) < 0) = false := decide_eq_false (by omega)
      have j0 : (0 : Int) ≤ (o1 : Nat) := by omega
      have j1 : ((o1 : Nat) : Int) < (m : Nat) := by omega
      have hB1A : N ≤ wA.heap.size := hNA
      obtain ⟨ys, hys⟩ : ∃ ys, G.set o1 (s1 : Int) = ys := ⟨_, rfl⟩
      rw [hys] at HGN HFN
      have HYS := Lib.hid hys
      clear hys hmx hm0 hfo hfs
      go_upto_region 17 with (fail)
      go_wp2_with (with_reducible refine wpl_set eI_len (by decide) _ rfl 2 (.tmp 60) (.tmp 59) rfl g o1 rfl (.int .i64 (s1 : Int)) rfl (s1 : Int) rfl ?s1 (eI_one _) N 2 m m o1 G HOA.out ho (by omega) N hgN hB1A ys HYS ?_)
      case s1 => kernel_rfl
      intro w3 ho3 hb3 hg3
      have HO3 := Lib.hid ho3
      have HB3 := Lib.hid (HBA.out.trans (hb3.mono hN1))
      have hN3 : N ≤ w3.heap.size := Nat.le_trans hNA hb3.size
      clear ho3 hb3 hg3
      go_wp2_with fail
      go_roundg (frees ys)
      case rel => exact ⟨ys, by trivial, HGN, Lib.hid rfl, HO3, HB3, hN3⟩
      case measure => have := HFN.out; have := HFR.out; omega
end Go.Proofs.YtkbcjegfobngaaaDoor
