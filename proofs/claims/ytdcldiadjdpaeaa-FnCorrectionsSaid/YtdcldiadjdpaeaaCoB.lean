/-
  What shifts leave: the program and the reference.
-/
import Derived.Test.YtdcldiadjdpaeaaCo3
import Derived.Test.YtdcldiadjdpaeaaTimes
import Derived.Test.YtdcldiadjdpaeaaMod2
import Derived.Test.YtdcldiadjdpaeaaFr
import Derived.Test.YtdcldiadjdpaeaaMin
import Derived.Deep.RegionWith
namespace Go.Proofs.Ytdcldiadjdpaeaa
open Go.RowKit
set_option maxRecDepth 100000
set_option linter.unusedVariables false
set_option linter.unusedSimpArgs false
def slA (S : List Int) : Bool := S.all fun x => inB x (-100000) 100000
def slC (n : Int) (L : List Com) (S : List Int) : Int := if comB n L = true then (if (S.length : Int) = n ∧ slA S = true then 0 else 2) else 1
def slT (S : List Int) (x : Com) : Int := x.diff + sat S x.b - sat S x.a
def slM (S : List Int) (L : List Com) : Int := L.foldl (fun m x => max m ((slT S x).natAbs : Int)) 0
def slV (n : Int) (L : List Com) (S : List Int) : Int := if slC n L S = 0 then slM S L else 0
theorem sl_1 {n : Int} {L : List Com} {S : List Int} (h : comB n L = false) : slC n L S = 1 ∧ slV n L S = 0 := by
  have e : slC n L S = 1 := by unfold slC; rw [h]; rfl
  exact ⟨e, by unfold slV; rw [e]; rfl⟩
theorem sl_2 {n : Int} {L : List Com} {S : List Int} (h : comB n L = true) (h2 : ¬ ((S.length : Int) = n ∧ slA S = true)) : slC n L S = 2 ∧ slV n L S = 0 := by
  have e : slC n L S = 2 := by unfold slC; rw [h, if_neg h2]; rfl
  exact ⟨e, by unfold slV; rw [e]; rfl⟩
theorem sl_0 {n : Int} {L : List Com} {S : List Int} (h : comB n L = true) (h2 : (S.length : Int) = n) (h3 : slA S = true) : slC n L S = 0 ∧ slV n L S = slM S L := by
  have e : slC n L S = 0 := by unfold slC; rw [h, if_pos rfl, if_pos ⟨h2, h3⟩]
  exact ⟨e, by unfold slV; rw [e]; rfl⟩
theorem slM_next {S : List Int} {L : List Com} {k : Nat} {x : Com} (hx : L[k]? = some x) : max (slM S (L.take k)) ((slT S x).natAbs : Int) = slM S (L.take (k + 1)) := by
  unfold slM
  rw [List.take_add_one, hx]
  simp
theorem slM_one {S : List Int} {x : Com} (h : slT S x = 0) : slM S [x] = 0 := by
  unfold slM
  simp [h]
theorem slA_bd {S : List Int} (h : slA S = true) (i : Nat) : -100000 ≤ S.getD i 0 ∧ S.getD i 0 ≤ 100000 := by
  simp only [List.getD]
  cases hi : S[i]? with
  | none => simp
  | some y =>
    have := inB_iff.1 (List.all_eq_true.1 h y (List.mem_of_getElem? hi))
    simpa using this
theorem absI_nat (x : Int) : absI x = (x.natAbs : Int) := by unfold absI; split <;> omega
theorem row_cells {w : World} {a : Option Addr} {S : List Int} (hr : Rd eI 1 w a S) (h : 0 < S.length) : ∃ b o, a = some ⟨b, o, none⟩ ∧ ∀ wq, Below w.heap.size w wq → ∀ i, i < S.length → wq.cell? ⟨b, o + i, none⟩ = some (.int .i64 (S.getD i 0)) := by
  obtain ⟨b, o, hab, hC⟩ := hr.addr1 (f := fun x : Int => Value.int .i64 x) h (fun _ => rfl)
  refine ⟨b, o, hab, fun wq hq i hi => ?_⟩
  have hx : S[i]? = some (S.getD i 0) := by rw [List.getElem?_eq_getElem hi]; simp [List.getD, List.getElem?_eq_getElem hi]
  exact hC i _ hx wq hq
theorem slA_next {S : List Int} {k : Nat} {x : Int} (hx : S[k]? = some x) (h : slA (S.take k) = true) (h2 : inB x (-100000) 100000 = true) : slA (S.take (k + 1)) = true := by
  unfold slA at h ⊢
  rw [List.take_add_one, hx]
  simp only [Option.toList_some, List.all_append, h, List.all_cons, h2, List.all_nil, Bool.and_true]
theorem slA_bad {S : List Int} {k : Nat} {x : Int} (hx : S[k]? = some x) (h2 : inB x (-100000) 100000 = false) : slA S = false := by
  cases h : slA S with
  | false => rfl
  | true => have := List.all_eq_true.1 h x (List.mem_of_getElem? hx); rw [h2] at this; cases this
set_option maxHeartbeats 4000000 in
theorem l05Shifts_any (S : List Int) (a : Option Addr) (m c : Nat) (w : World) (hm : m ≤ 1048576) (hl : S.length = m) (hr : Rd eI 1 w a S) :
    Calls Try.prog 40 #[.slice a m c, .int .i64 100000] w fun e w' => e = .returned (.bool (slA S)) ∧ Below w.heap.size w w' := by
  have HL := Lib.hid hl
  have HRC : Hid (0 < S.length → ∃ b o, a = some ⟨b, o, none⟩ ∧ ∀ wq, Below w.heap.size w wq → ∀ i, i < S.length → wq.cell? ⟨b, o + i, none⟩ = some (.int .i64 (S.getD i 0))) := Lib.hid fun h => row_cells hr h
  clear hl hr
  go_enter Try.func40, Try.ntmps40
  go_wp2_with fail
  go_loopw [5] (fun iv wr => ∃ k : Nat, k ≤ m ∧ iv = .int .i64 k ∧ Hid (slA (S.take k) = true) ∧ Hid (Below w.heap.size w wr)) (fun iv _ => m - (intOf iv).toNat)
  case atStart => exact ⟨0, Nat.zero_le _, rfl, Lib.hid rfl, Lib.hid (Below.refl _ _)⟩
  case round =>
    obtain ⟨k, hk, rfl, HA, HB⟩ := hrel
    by_cases hlt : k < m
    · obtain ⟨x, hx⟩ : ∃ x, S[k]? = some x := ⟨_, List.getElem?_eq_getElem (by rw [HL.out]; exact hlt)⟩
      obtain ⟨b, ob, hab, hC⟩ := HRC.out (by rw [HL.out]; omega)
      subst hab
      have c0 := hC wr HB.out k (by rw [HL.out]; exact hlt)
      rw [show S.getD k 0 = x by simp [List.getD, hx]] at c0
      have i1 : (0 : Int) ≤ (k : Nat) := by omega
      have i2 : ((k : Nat) : Int) < (m : Nat) := by omega
      cases hi : inB x (-100000) 100000 with
      | false =>
        have HBAD := Lib.hid (slA_bad hx hi)
        clear hx hC
        go_wp2_with ((go_at_call 34; refine (l00In_lit _ _ _ _ _ (by assumption)).mono ?_; rintro e wz ⟨rfl, rfl⟩))
        go_ret
        exact ⟨by rw [HBAD.out]; try rfl, HB.out⟩
      | true =>
        have HN := Lib.hid (slA_next hx HA.out hi)
        clear hx hC
        go_wp2_with ((go_at_call 34; refine (l00In_lit _ _ _ _ _ (by assumption)).mono ?_; rintro e wz ⟨rfl, rfl⟩))
        go_roundw
        case rel => exact ⟨k + 1, by omega, by go_num, HN, HB⟩
        case measure => simp [intOf]; omega
    · obtain rfl : k = m := by omega
      have HAL : Hid (slA S = true) := Lib.hid (by have := HA.out; rw [List.take_of_length_le (by rw [HL.out]; exact Nat.le_refl _)] at this; exact this)
      go_wp2_with fail
      go_ret
      exact ⟨by rw [HAL.out]; try rfl, HB.out⟩
end Go.Proofs.Ytdcldiadjdpaeaa
