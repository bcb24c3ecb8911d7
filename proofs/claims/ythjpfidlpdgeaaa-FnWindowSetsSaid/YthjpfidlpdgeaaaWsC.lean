/-
  Sets of windows: what the law needs, in plain Lean.
-/
import Derived.Test.YthjpfidlpdgeaaaWs8
import Derived.Test.YthjpfidlpdgeaaaWs7
namespace Go.Proofs.Ythjpfidlpdgeaaa
open Go.RowKit
set_option maxRecDepth 100000
set_option linter.unusedVariables false
theorem OutW.len {r : Int} {A B : List Win} {q : Int} {L : List Win} (h : OutW r A B q L) : L.length ≤ 30 := by
  rcases h.p with ⟨_, _, rfl⟩ | ⟨_, M, _, ⟨h1, _, rfl⟩ | ⟨_, _, rfl⟩⟩
  · simp
  · exact h1
  · simp
theorem ruS_in {r : Int} {A B : List Win} (ha : InB A) (hb : InB B) {t : Int} (h : RuS r A B t) : 0 ≤ t ∧ t ≤ 10000000 := by
  have h2 : inWB A t = true ∨ inWB B t = true := by
    unfold RuS at h
    cases c1 : inWB A t
    · cases c2 : inWB B t
      · rw [c1, c2, ruleB_no] at h; cases h
      · exact .inr rfl
    · exact .inl rfl
  rcases h2 with h2 | h2
  · obtain ⟨w, hw, a, b⟩ := inWB_iff.1 h2
    have := ha w hw; omega
  · obtain ⟨w, hw, a, b⟩ := inWB_iff.1 h2
    have := hb w hw; omega
theorem OutW.ord {r : Int} {A B L : List Win} (h : OutW r A B 0 L) : OrdW L := by
  obtain ⟨ha, hb, _, hs⟩ := h.ok
  exact hs.c.ord fun t ht => ruS_in (okW_parts ha).2.1 (okW_parts hb).2.1 ((hs.m t).1 ht)
theorem OutW.valid {r : Int} {A B L : List Win} (h : OutW r A B 0 L) : Win.allOk L = true := okW_of h.ok.2.2.1 h.ord
theorem OutW.at_ {r : Int} {A B L : List Win} (h : OutW r A B 0 L) (t : Int) : inWB L t = ruleB r (inWB A t) (inWB B t) := by
  have h1 := h.ok.2.2.2.m t
  unfold RuS at h1
  rw [← inWB_iff] at h1
  exact Bool.eq_iff_iff.2 h1
theorem law_len {A B U M L : List Win} (hu : OutW 1 A B 0 U) (hm : OutW 2 A B 0 M) (hl : OutW 3 A B 0 L) : lenW U = lenW A + lenW B - lenW M ∧ lenW L = lenW A - lenW M := by
  obtain ⟨ha, hb, _, su⟩ := hu.ok
  have sm := hm.ok.2.2.2
  have sl := hl.ok.2.2.2
  refine ⟨lenW_sum (okW_ord ha) (okW_ord hb) hu.ord hm.ord (fun t => (su.m t).trans (ruS1 A B t)) (fun t => (sm.m t).trans (ruS2 A B t)), lenW_less (okW_ord ha) hl.ord hm.ord (fun t => (sl.m t).trans (ruS3 A B t)) (fun t => (sm.m t).trans (ruS2 A B t))⟩
end Go.Proofs.Ythjpfidlpdgeaaa
