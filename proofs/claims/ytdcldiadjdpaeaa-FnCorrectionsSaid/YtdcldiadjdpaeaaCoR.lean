/-
  The law of corrections in plain lists.
-/
import Derived.Test.YtdcldiadjdpaeaaCoF
import Derived.Test.YtdcldiadjdpaeaaCoB
namespace Go.Proofs.Ytdcldiadjdpaeaa
open Go.RowKit
set_option maxRecDepth 100000
set_option linter.unusedVariables false
theorem cast_n {n : Int} (h : 1 ≤ n) : ((n.toNat : Nat) : Int) = n := by omega
theorem ShP.uniq {n first : Int} {L : List Com} {S T : List Int} (h : ShP n L first S) (h' : ShP n L first T) : S = T := by
  by_cases h0 : lnC n L first = 0
  · obtain ⟨hok, f0, f1⟩ := lnC_ok h0
    have hc := cast_n hok.n1
    obtain ⟨K, hK⟩ := h.f h0
    obtain ⟨K', hK'⟩ := h'.f h0
    exact (hK.uniq (by rw [hc]; exact hok.e) f0 (by rw [hc]; exact f1) hK').1
  · rw [h.z h0, h'.z h0]
theorem LkP.uniq {n first : Int} {L : List Com} {S T : List Int} (h : LkP n L first S) (h' : LkP n L first T) : S = T := by
  by_cases h0 : lnC n L first = 0
  · obtain ⟨hok, f0, f1⟩ := lnC_ok h0
    have hc := cast_n hok.n1
    obtain ⟨S0, K, hK, e⟩ := h.f h0
    obtain ⟨S1, K', hK', e'⟩ := h'.f h0
    rw [e, e', (hK.uniq (by rw [hc]; exact hok.e) f0 (by rw [hc]; exact f1) hK').2]
  · rw [h.z h0, h'.z h0]
theorem lk_back {n first c : Int} {L : List Com} {U : List Int} (h : LkP n L first U) (h0 : lnC n L first = 0) (hc : c ∈ U) : lnC n L c = 0 ∧ ∀ Y, LkP n L c Y → Y = U := by
  obtain ⟨hok, f0, f1⟩ := lnC_ok h0
  have hcn := cast_n hok.n1
  obtain ⟨S0, K, hK, e⟩ := h.f h0
  rw [e] at hc
  have hin := lkL_in hc
  have hz : lnC n L c = 0 := lnC_0 (comB_iff.2 hok) (inB_iff.2 (by omega))
  refine ⟨hz, fun Y hY => ?_⟩
  obtain ⟨S1, K', hK', e'⟩ := hY.f hz
  rw [e', e]
  exact (linked_back (by rw [hcn]; exact hok.e) f0 (by rw [hcn]; exact f1) hK hc hK').2.2
theorem md_back {n : Int} {L : List Com} {a b : Int} (h : mdC n L a b = 0) : mdC n L b a = 0 ∧ 0 ≤ mdV n L b a + mdV n L a b ∧ mdV n L b a + mdV n L a b ≤ 1 := by
  cases hv : comB n L with
  | false => have := (md_1 (a := a) (b := b) hv).1; omega
  | true =>
    cases ho : mdOk n a b with
    | false => have := (md_2 (a := a) (b := b) hv ho).1; omega
    | true =>
      by_cases hd : dfL L a b = []
      · have := (md_3 hv ho hd).1; omega
      · obtain ⟨c1, v1⟩ := md_0 hv ho hd
        have ho2 := ho
        unfold mdOk at ho2
        simp only [Bool.and_eq_true, Bool.not_eq_true', beq_eq_false_iff_ne] at ho2
        obtain ⟨q1, q2, q3⟩ := ho2
        have ho' : mdOk n b a = true := by
          unfold mdOk
          simp only [Bool.and_eq_true, Bool.not_eq_true', beq_eq_false_iff_ne]
          exact ⟨q2, q1, fun e => q3 e.symm⟩
        have hn := dfL_neg q3 L
        have hd' : dfL L b a ≠ [] := fun e => hd (by rw [e] at hn; exact List.map_eq_nil_iff.1 hn.symm)
        obtain ⟨c2, v2⟩ := md_0 hv ho' hd'
        have hm := medI_neg (l := dfL L a b) (List.length_pos_iff.2 hd)
        rw [v1, v2, hn]
        exact ⟨c2, hm.1, hm.2⟩
theorem sh_fin {n first : Int} {L : List Com} {S : List Int} (h : ShP n L first S) (h0 : lnC n L first = 0) : 0 ≤ first ∧ first < n ∧ (S.length : Int) = n ∧ S.getD first.toNat 0 = 0 ∧ slC n L S = 0 ∧ ∀ x, L = [x] → (x.a = first ∨ x.b = first) → slV n L S = 0 := by
  obtain ⟨hok, f0, f1⟩ := lnC_ok h0
  have hcn := cast_n hok.n1
  obtain ⟨K, hK⟩ := h.f h0
  have h9 := hK.ok (by rw [hcn]; exact hok.e) f0 (by rw [hcn]; exact f1) (by have := hok.n2; omega)
  have hA : slA S = true := List.all_eq_true.2 fun y hy => by
    obtain ⟨i, hi⟩ := List.mem_iff_getElem?.1 hy
    have h8 := h9.2.2.1 i
    simp only [List.getD, hi, Option.getD_some] at h8
    exact inB_iff.2 (by omega)
  have hlen : (S.length : Int) = n := by rw [h9.1]; exact hcn
  obtain ⟨hc0, hv0⟩ := sl_0 (comB_iff.2 hok) hlen hA
  refine ⟨f0, f1, hlen, h9.2.2.2, hc0, fun x hx hf => ?_⟩
  subst hx
  have hp := one_pair (hok.e x (List.mem_singleton.2 rfl) |> fun h => by rw [← hcn] at h; exact h) f0 (by rw [hcn]; exact f1) hK hf
  rw [hv0]
  exact slM_one (by unfold slT; exact hp)
theorem drawSh2 (a : Option Addr) (n c : Nat) (xs : List Int) (w : World) (hl : xs.length = n) (ho : ∀ x ∈ xs, Byt x) (hr : Rd eB 1 w a xs) : Calls Try.prog 5 #[.slice a n c] w fun e w' => ∃ (cn : Int) (a' : Option Addr) (k c' : Nat) (L : List Com) (v : Int), e = .returned (.tuple #[.int .i64 cn, .slice a' k c', .int .i64 v]) ∧ k ≤ 61 ∧ L.length = k ∧ Rd Com.enc 3 w' a' L ∧ Below w.heap.size w w' :=
  (drawSh a n c xs w hl ho hr).mono fun e w' ⟨cn, a', k, c', L, V, hV, he, h1, h2, h3, h4, h5⟩ => by
    match V, hV with
    | [v], _ => exact ⟨cn, a', k, c', L, v, he, h1, h3, h4, h5⟩
end Go.Proofs.Ytdcldiadjdpaeaa
