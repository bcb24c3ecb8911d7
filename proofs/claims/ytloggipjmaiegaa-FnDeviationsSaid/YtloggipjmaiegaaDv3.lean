/-
  Codes, what is kept and clipped, weights, deviations: both sides.
-/
import Derived.Test.YtloggipjmaiegaaDv2
import Derived.Test.YtloggipjmaiegaaCopy
namespace Go.Proofs.Ytloggipjmaiegaa
open Go.RowKit
set_option maxRecDepth 100000
set_option linter.unusedVariables false
set_option linter.unusedSimpArgs false
theorem Rd.nilI {w : World} {a : Option Addr} : Rd eI 1 w a [] := fun i x hx => by simp at hx
theorem Rd.otherI {w w' : World} {b o : Nat} {L : List Int} (h : Rd eI 1 w (some ⟨b, o, none⟩) L) (hb : b < w.heap.size → w'.heap[b]? = w.heap[b]?) : Rd eI 1 w' (some ⟨b, o, none⟩) L := fun i x hx => by
  obtain ⟨b', o', he, hlt, hc⟩ := h i x hx
  cases he
  have h1 := hb hlt
  have h2 : b < w'.heap.size := by
    have h3 : w.heap[b]? = some w.heap[b] := Array.getElem?_eq_getElem hlt
    rw [h3] at h1
    exact (Array.getElem?_eq_some_iff.1 h1).1
  refine ⟨b, o, rfl, h2, fun j u hu => ?_⟩
  have := hc j u hu
  simp only [World.cell?, h1] at this ⊢
  exact this
def lenV : Value → Nat
  | .slice _ n _ => n
  | _ => 0
theorem wgtL_take {l : List Int} {k : Nat} {x : Int} {U M : Int} (h : l[k]? = some x) : ((l.take (k + 1)).map fun y => wgtI U (absI (y - M))) = ((l.take k).map fun y => wgtI U (absI (y - M))) ++ [wgtI U (absI (x - M))] := by
  rw [List.take_add_one, h]; simp
theorem wgtD_take {l : List Int} {k : Nat} {d : Int} {U : Int} (h : l[k]? = some d) : ((l.take (k + 1)).map (wgtI U)) = ((l.take k).map (wgtI U)) ++ [wgtI U d] := by
  rw [List.take_add_one, h]; simp
theorem wgtL_aw (l : List Int) : wgtL l = (awL (medI l) l).map (wgtI (madI l)) := by
  unfold wgtL awL
  rw [List.map_map]; rfl
theorem wgtI_a {u d : Int} (h : d ≤ u) : wgtI u d = 100 := by simp [wgtI, h]
theorem wgtI_b {u d : Int} (h : ¬ d ≤ u) (h2 : d ≤ 10 * u) : wgtI u d = Int.tdiv (100 * u) d := by simp [wgtI, h, h2]
theorem wgtI_c {u d : Int} (h : ¬ d ≤ u) (h2 : ¬ d ≤ 10 * u) : wgtI u d = 0 := by simp [wgtI, h, h2]
set_option maxHeartbeats 600000 in
theorem withFactor_any (t : Int) (ls : List Int) (a : Option Addr) (n c : Nat) (w : World) (hn : n ≤ 1000) (hl : ls.length = n) (hr : Rd eI 1 w a ls) : Calls Try.prog 217 #[.slice a n c, .int .i64 t] w fun e w' => e = .returned (.int .i64 (tmE ls t)) ∧ Below w.heap.size w w' := by
  by_cases hmag : magsB ls = true
  · by_cases hin : inB t 1 100 = true
    · by_cases hz : n = 0
      · have dz : ((n : Int) == 0) = true := by rw [beq_iff_eq]; omega
        have dz2 : (n == 0) = true := by rw [beq_iff_eq]; exact hz
        have HE : Hid (tmE ls t = 3) := Lib.hid (by unfold tmE; simp [hmag, hl, hz, hin])
        clear hz
        have hmg : magsB ls = true := by simpa using hmag
        have CL : Hid (∀ wq, Rd eI 1 wq a ls → Calls Try.prog 158 #[.slice a n c] wq fun e w' => e = .returned (.int .i64 0) ∧ Below wq.heap.size wq w') := Lib.hid fun wq h1 => by have h := l02List_any ls a n c wq (by omega) hl h1; unfold listC at h; rw [if_pos hmag] at h; exact h
        have HL := Lib.hid hl
        have HR := Lib.hid hr
        clear hl hr
        have HMG := Lib.hid hmag
        clear hmag
        go_enter Try.func217, Try.ntmps217
        go_wp2_with fail
        refine (areMagsM ls a n c _ (by omega) HL.out (HR.out.below (Below.refl w.heap.size w))).mono ?_
        rintro e wv1 ⟨rfl, hb2⟩
        have HB3 : Hid (Below w.heap.size w wv1) := Lib.hid hb2
        clear hb2
        go_wp2_with fail
        refine (in_any t 1 100 _).mono ?_
        rintro e wz ⟨rfl, rfl⟩
        go_wp2_with fail
        go_ret
        exact ⟨by rw [HE.out]; rfl, HB3.out⟩
      · have dz : ((n : Int) == 0) = false := by rw [beq_eq_false_iff_ne]; omega
        have dz2 : (n == 0) = false := by rw [beq_eq_false_iff_ne]; exact hz
        have HE : Hid (tmE ls t = 0) := Lib.hid (by unfold tmE; simp [hmag, hl, hz, hin])
        clear hz
        have hmg : magsB ls = true := by simpa using hmag
        have CL : Hid (∀ wq, Rd eI 1 wq a ls → Calls Try.prog 158 #[.slice a n c] wq fun e w' => e = .returned (.int .i64 0) ∧ Below wq.heap.size wq w') := Lib.hid fun wq h1 => by have h := l02List_any ls a n c wq (by omega) hl h1; unfold listC at h; rw [if_pos hmag] at h; exact h
        have HL := Lib.hid hl
        have HR := Lib.hid hr
        clear hl hr
        have HMG := Lib.hid hmag
        clear hmag
        go_enter Try.func217, Try.ntmps217
        go_wp2_with fail
        refine (areMagsM ls a n c _ (by omega) HL.out (HR.out.below (Below.refl w.heap.size w))).mono ?_
        rintro e wv1 ⟨rfl, hb2⟩
        have HB3 : Hid (Below w.heap.size w wv1) := Lib.hid hb2
        clear hb2
        go_wp2_with fail
        refine (in_any t 1 100 _).mono ?_
        rintro e wz ⟨rfl, rfl⟩
        go_wp2_with fail
        go_ret
        exact ⟨by rw [HE.out]; rfl, HB3.out⟩
    · have hin2 : inB t 1 100 = false := by simpa using hin
      have HE : Hid (tmE ls t = 2) := Lib.hid (by unfold tmE; simp [hin])
      have hmg : magsB ls = true := by simpa using hmag
      have CL : Hid (∀ wq, Rd eI 1 wq a ls → Calls Try.prog 158 #[.slice a n c] wq fun e w' => e = .returned (.int .i64 0) ∧ Below wq.heap.size wq w') := Lib.hid fun wq h1 => by have h := l02List_any ls a n c wq (by omega) hl h1; unfold listC at h; rw [if_pos hmag] at h; exact h
      have HL := Lib.hid hl
      have HR := Lib.hid hr
      clear hl hr
      have HMG := Lib.hid hmag
      clear hmag
      go_enter Try.func217, Try.ntmps217
      go_wp2_with fail
      refine (areMagsM ls a n c _ (by omega) HL.out (HR.out.below (Below.refl w.heap.size w))).mono ?_
      rintro e wv1 ⟨rfl, hb2⟩
      have HB3 : Hid (Below w.heap.size w wv1) := Lib.hid hb2
      clear hb2
      go_wp2_with fail
      refine (in_any t 1 100 _).mono ?_
      rintro e wz ⟨rfl, rfl⟩
      go_wp2_with fail
      go_ret
      exact ⟨by rw [HE.out]; rfl, HB3.out⟩
  · have HE : Hid (tmE ls t = 2) := Lib.hid (by unfold tmE; simp [hmag])
    have hmg : magsB ls = false := by simpa using hmag
    have CL : Hid (∀ wq, Rd eI 1 wq a ls → Calls Try.prog 158 #[.slice a n c] wq fun e w' => e = .returned (.int .i64 2) ∧ Below wq.heap.size wq w') := Lib.hid fun wq h1 => by have h := l02List_any ls a n c wq (by omega) hl h1; unfold listC at h; rw [if_neg hmag] at h; exact h
    have HL := Lib.hid hl
    have HR := Lib.hid hr
    clear hl hr
    have HMG := Lib.hid hmag
    clear hmag
    go_enter Try.func217, Try.ntmps217
    go_wp2_with fail
    refine (areMagsM ls a n c _ (by omega) HL.out (HR.out.below (Below.refl w.heap.size w))).mono ?_
    rintro e wv1 ⟨rfl, hb2⟩
    have HB3 : Hid (Below w.heap.size w wv1) := Lib.hid hb2
    clear hb2
    go_wp2_with fail
    go_ret
    exact ⟨by rw [HE.out]; rfl, HB3.out⟩
set_option maxHeartbeats 600000 in
theorem someMagsD (ls : List Int) (a : Option Addr) (n c : Nat) (w : World) (hn : n ≤ 1000) (hl : ls.length = n) (hr : Rd eI 1 w a ls) : Calls Try.prog 156 #[.slice a n c] w fun e w' => e = .returned (.int .i64 (smE ls)) ∧ Below w.heap.size w w' := by
  by_cases hmag : magsB ls = true
  · by_cases hz : n = 0
    · have dz : ((n : Int) == 0) = true := by rw [beq_iff_eq]; omega
      have dz2 : (n == 0) = true := by rw [beq_iff_eq]; exact hz
      have HE : Hid (smE ls = 3) := Lib.hid (by unfold smE; simp [hmag, hl, hz])
      clear hz
      have hmg : magsB ls = true := by simpa using hmag
      have CL : Hid (∀ wq, Rd eI 1 wq a ls → Calls Try.prog 158 #[.slice a n c] wq fun e w' => e = .returned (.int .i64 0) ∧ Below wq.heap.size wq w') := Lib.hid fun wq h1 => by have h := l02List_any ls a n c wq (by omega) hl h1; unfold listC at h; rw [if_pos hmag] at h; exact h
      have HL := Lib.hid hl
      have HR := Lib.hid hr
      clear hl hr
      have HMG := Lib.hid hmag
      clear hmag
      go_enter Try.func156, Try.ntmps156
      go_wp2_with fail
      refine (areMagsM ls a n c _ (by omega) HL.out (HR.out.below (Below.refl w.heap.size w))).mono ?_
      rintro e wv1 ⟨rfl, hb2⟩
      have HB3 : Hid (Below w.heap.size w wv1) := Lib.hid hb2
      clear hb2
      go_wp2_with fail
      go_ret
      exact ⟨by rw [HE.out]; rfl, HB3.out⟩
    · have dz : ((n : Int) == 0) = false := by rw [beq_eq_false_iff_ne]; omega
      have dz2 : (n == 0) = false := by rw [beq_eq_false_iff_ne]; exact hz
      have HE : Hid (smE ls = 0) := Lib.hid (by unfold smE; simp [hmag, hl, hz])
      clear hz
      have hmg : magsB ls = true := by simpa using hmag
      have CL : Hid (∀ wq, Rd eI 1 wq a ls → Calls Try.prog 158 #[.slice a n c] wq fun e w' => e = .returned (.int .i64 0) ∧ Below wq.heap.size wq w') := Lib.hid fun wq h1 => by have h := l02List_any ls a n c wq (by omega) hl h1; unfold listC at h; rw [if_pos hmag] at h; exact h
      have HL := Lib.hid hl
      have HR := Lib.hid hr
      clear hl hr
      have HMG := Lib.hid hmag
      clear hmag
      go_enter Try.func156, Try.ntmps156
      go_wp2_with fail
      refine (areMagsM ls a n c _ (by omega) HL.out (HR.out.below (Below.refl w.heap.size w))).mono ?_
      rintro e wv1 ⟨rfl, hb2⟩
      have HB3 : Hid (Below w.heap.size w wv1) := Lib.hid hb2
      clear hb2
      go_wp2_with fail
      go_ret
      exact ⟨by rw [HE.out]; rfl, HB3.out⟩
  · have HE : Hid (smE ls = 2) := Lib.hid (by unfold smE; simp [hmag])
    have hmg : magsB ls = false := by simpa using hmag
    have CL : Hid (∀ wq, Rd eI 1 wq a ls → Calls Try.prog 158 #[.slice a n c] wq fun e w' => e = .returned (.int .i64 2) ∧ Below wq.heap.size wq w') := Lib.hid fun wq h1 => by have h := l02List_any ls a n c wq (by omega) hl h1; unfold listC at h; rw [if_neg hmag] at h; exact h
    have HL := Lib.hid hl
    have HR := Lib.hid hr
    clear hl hr
    have HMG := Lib.hid hmag
    clear hmag
    go_enter Try.func156, Try.ntmps156
    go_wp2_with fail
    refine (areMagsM ls a n c _ (by omega) HL.out (HR.out.below (Below.refl w.heap.size w))).mono ?_
    rintro e wv1 ⟨rfl, hb2⟩
    have HB3 : Hid (Below w.heap.size w wv1) := Lib.hid hb2
    clear hb2
    go_wp2_with fail
    go_ret
    exact ⟨by rw [HE.out]; rfl, HB3.out⟩
set_option maxHeartbeats 600000 in
theorem l21Times_any (t : Int) (ls : List Int) (a : Option Addr) (n c : Nat) (w : World) (hn : n ≤ 1000) (hl : ls.length = n) (hr : Rd eI 1 w a ls) : Calls Try.prog 220 #[.slice a n c, .int .i64 t] w fun e w' => e = .returned (.int .i64 (tmE ls t)) ∧ Below w.heap.size w w' := by
  by_cases hmag : magsB ls = true
  · by_cases hin : inB t 1 100 = true
    · by_cases hz : n = 0
      · have dz : ((n : Int) == 0) = true := by rw [beq_iff_eq]; omega
        have dz2 : (n == 0) = true := by rw [beq_iff_eq]; exact hz
        have HE : Hid (tmE ls t = 3) := Lib.hid (by unfold tmE; simp [hmag, hl, hz, hin])
        clear hz
        have hmg : magsB ls = true := by simpa using hmag
        have CL : Hid (∀ wq, Rd eI 1 wq a ls → Calls Try.prog 158 #[.slice a n c] wq fun e w' => e = .returned (.int .i64 0) ∧ Below wq.heap.size wq w') := Lib.hid fun wq h1 => by have h := l02List_any ls a n c wq (by omega) hl h1; unfold listC at h; rw [if_pos hmag] at h; exact h
        have HL := Lib.hid hl
        have HR := Lib.hid hr
        clear hl hr
        have HMG := Lib.hid hmag
        clear hmag
        go_enter Try.func220, Try.ntmps220
        go_wp2_with fail
        refine (CL.out _ (HR.out.below (Below.refl w.heap.size w))).mono ?_
        rintro e wv1 ⟨rfl, hb2⟩
        have HB3 : Hid (Below w.heap.size w wv1) := Lib.hid hb2
        clear hb2
        go_wp2_with fail
        refine (l00In_any t 1 100 _).mono ?_
        rintro e wz ⟨rfl, rfl⟩
        go_wp2_with fail
        go_ret
        exact ⟨by rw [HE.out]; rfl, HB3.out⟩
      · have dz : ((n : Int) == 0) = false := by rw [beq_eq_false_iff_ne]; omega
        have dz2 : (n == 0) = false := by rw [beq_eq_false_iff_ne]; exact hz
        have HE : Hid (tmE ls t = 0) := Lib.hid (by unfold tmE; simp [hmag, hl, hz, hin])
        clear hz
        have hmg : magsB ls = true := by simpa using hmag
        have CL : Hid (∀ wq, Rd eI 1 wq a ls → Calls Try.prog 158 #[.slice a n c] wq fun e w' => e = .returned (.int .i64 0) ∧ Below wq.heap.size wq w') := Lib.hid fun wq h1 => by have h := l02List_any ls a n c wq (by omega) hl h1; unfold listC at h; rw [if_pos hmag] at h; exact h
        have HL := Lib.hid hl
        have HR := Lib.hid hr
        clear hl hr
        have HMG := Lib.hid hmag
        clear hmag
        go_enter Try.func220, Try.ntmps220
        go_wp2_with fail
        refine (CL.out _ (HR.out.below (Below.refl w.heap.size w))).mono ?_
        rintro e wv1 ⟨rfl, hb2⟩
        have HB3 : Hid (Below w.heap.size w wv1) := Lib.hid hb2
        clear hb2
        go_wp2_with fail
        refine (l00In_any t 1 100 _).mono ?_
        rintro e wz ⟨rfl, rfl⟩
        go_wp2_with fail
        go_ret
        exact ⟨by rw [HE.out]; rfl, HB3.out⟩
    · have hin2 : inB t 1 100 = false := by simpa using hin
      have HE : Hid (tmE ls t = 2) := Lib.hid (by unfold tmE; simp [hin])
      have hmg : magsB ls = true := by simpa using hmag
      have CL : Hid (∀ wq, Rd eI 1 wq a ls → Calls Try.prog 158 #[.slice a n c] wq fun e w' => e = .returned (.int .i64 0) ∧ Below wq.heap.size wq w') := Lib.hid fun wq h1 => by have h := l02List_any ls a n c wq (by omega) hl h1; unfold listC at h; rw [if_pos hmag] at h; exact h
      have HL := Lib.hid hl
      have HR := Lib.hid hr
      clear hl hr
      have HMG := Lib.hid hmag
      clear hmag
      go_enter Try.func220, Try.ntmps220
      go_wp2_with fail
      refine (CL.out _ (HR.out.below (Below.refl w.heap.size w))).mono ?_
      rintro e wv1 ⟨rfl, hb2⟩
      have HB3 : Hid (Below w.heap.size w wv1) := Lib.hid hb2
      clear hb2
      go_wp2_with fail
      refine (l00In_any t 1 100 _).mono ?_
      rintro e wz ⟨rfl, rfl⟩
      go_wp2_with fail
      go_ret
      exact ⟨by rw [HE.out]; rfl, HB3.out⟩
  · have HE : Hid (tmE ls t = 2) := Lib.hid (by unfold tmE; simp [hmag])
    have hmg : magsB ls = false := by simpa using hmag
    have CL : Hid (∀ wq, Rd eI 1 wq a ls → Calls Try.prog 158 #[.slice a n c] wq fun e w' => e = .returned (.int .i64 2) ∧ Below wq.heap.size wq w') := Lib.hid fun wq h1 => by have h := l02List_any ls a n c wq (by omega) hl h1; unfold listC at h; rw [if_neg hmag] at h; exact h
    have HL := Lib.hid hl
    have HR := Lib.hid hr
    clear hl hr
    have HMG := Lib.hid hmag
    clear hmag
    go_enter Try.func220, Try.ntmps220
    go_wp2_with fail
    refine (CL.out _ (HR.out.below (Below.refl w.heap.size w))).mono ?_
    rintro e wv1 ⟨rfl, hb2⟩
    have HB3 : Hid (Below w.heap.size w wv1) := Lib.hid hb2
    clear hb2
    go_wp2_with fail
    go_ret
    exact ⟨by rw [HE.out]; rfl, HB3.out⟩
set_option maxHeartbeats 600000 in
theorem l21Some_any (ls : List Int) (a : Option Addr) (n c : Nat) (w : World) (hn : n ≤ 1000) (hl : ls.length = n) (hr : Rd eI 1 w a ls) : Calls Try.prog 228 #[.slice a n c] w fun e w' => e = .returned (.int .i64 (smE ls)) ∧ Below w.heap.size w w' := by
  by_cases hmag : magsB ls = true
  · by_cases hz : n = 0
    · have dz : ((n : Int) == 0) = true := by rw [beq_iff_eq]; omega
      have dz2 : (n == 0) = true := by rw [beq_iff_eq]; exact hz
      have HE : Hid (smE ls = 3) := Lib.hid (by unfold smE; simp [hmag, hl, hz])
      clear hz
      have hmg : magsB ls = true := by simpa using hmag
      have CL : Hid (∀ wq, Rd eI 1 wq a ls → Calls Try.prog 158 #[.slice a n c] wq fun e w' => e = .returned (.int .i64 0) ∧ Below wq.heap.size wq w') := Lib.hid fun wq h1 => by have h := l02List_any ls a n c wq (by omega) hl h1; unfold listC at h; rw [if_pos hmag] at h; exact h
      have HL := Lib.hid hl
      have HR := Lib.hid hr
      clear hl hr
      have HMG := Lib.hid hmag
      clear hmag
      go_enter Try.func228, Try.ntmps228
      go_wp2_with fail
      refine (CL.out _ (HR.out.below (Below.refl w.heap.size w))).mono ?_
      rintro e wv1 ⟨rfl, hb2⟩
      have HB3 : Hid (Below w.heap.size w wv1) := Lib.hid hb2
      clear hb2
      go_wp2_with fail
      go_ret
      exact ⟨by rw [HE.out]; rfl, HB3.out⟩
    · have dz : ((n : Int) == 0) = false := by rw [beq_eq_false_iff_ne]; omega
      have dz2 : (n == 0) = false := by rw [beq_eq_false_iff_ne]; exact hz
      have HE : Hid (smE ls = 0) := Lib.hid (by unfold smE; simp [hmag, hl, hz])
      clear hz
      have hmg : magsB ls = true := by simpa using hmag
      have CL : Hid (∀ wq, Rd eI 1 wq a ls → Calls Try.prog 158 #[.slice a n c] wq fun e w' => e = .returned (.int .i64 0) ∧ Below wq.heap.size wq w') := Lib.hid fun wq h1 => by have h := l02List_any ls a n c wq (by omega) hl h1; unfold listC at h; rw [if_pos hmag] at h; exact h
      have HL := Lib.hid hl
      have HR := Lib.hid hr
      clear hl hr
      have HMG := Lib.hid hmag
      clear hmag
      go_enter Try.func228, Try.ntmps228
      go_wp2_with fail
      refine (CL.out _ (HR.out.below (Below.refl w.heap.size w))).mono ?_
      rintro e wv1 ⟨rfl, hb2⟩
      have HB3 : Hid (Below w.heap.size w wv1) := Lib.hid hb2
      clear hb2
      go_wp2_with fail
      go_ret
      exact ⟨by rw [HE.out]; rfl, HB3.out⟩
  · have HE : Hid (smE ls = 2) := Lib.hid (by unfold smE; simp [hmag])
    have hmg : magsB ls = false := by simpa using hmag
    have CL : Hid (∀ wq, Rd eI 1 wq a ls → Calls Try.prog 158 #[.slice a n c] wq fun e w' => e = .returned (.int .i64 2) ∧ Below wq.heap.size wq w') := Lib.hid fun wq h1 => by have h := l02List_any ls a n c wq (by omega) hl h1; unfold listC at h; rw [if_neg hmag] at h; exact h
    have HL := Lib.hid hl
    have HR := Lib.hid hr
    clear hl hr
    have HMG := Lib.hid hmag
    clear hmag
    go_enter Try.func228, Try.ntmps228
    go_wp2_with fail
    refine (CL.out _ (HR.out.below (Below.refl w.heap.size w))).mono ?_
    rintro e wv1 ⟨rfl, hb2⟩
    have HB3 : Hid (Below w.heap.size w wv1) := Lib.hid hb2
    clear hb2
    go_wp2_with fail
    go_ret
    exact ⟨by rw [HE.out]; rfl, HB3.out⟩
set_option maxHeartbeats 600000 in
theorem imKeptMags (t : Int) (ls : List Int) (a : Option Addr) (n c : Nat) (w : World) (hn : n ≤ 1000) (hl : ls.length = n) (hr : Rd eI 1 w a ls) : Calls Try.prog 102 #[.slice a n c, .int .i64 t] w fun e w' => ∃ (a' : Option Addr) (n' c' : Nat), e = .returned (.tuple #[.slice a' n' c', .int .i64 (tmE ls t)]) ∧ n' ≤ n ∧ n' ≤ c' ∧ (kpV ls t).length = n' ∧ Rd eI 1 w' a' (kpV ls t) ∧ Below w.heap.size w w' := by
  by_cases hE : tmE ls t = 0
  · have hpt := tmE_parts hE
    have HE : Hid (tmE ls t = 0) := Lib.hid hE
    have hln : ls.length = n := hl
    have hmi : MagsIn ls := hpt.2.1
    have h1 : 1 ≤ n := by have := hpt.2.2.1; omega
    have hn100 : n ≤ 100 := by have h8 := (magsB_parts hpt.1).1; omega
    have ht1 : 1 ≤ t := hpt.2.2.2.2.1
    have ht2 : t ≤ 100 := hpt.2.2.2.2.2.1
    have HM := Lib.hid hmi
    have HL := Lib.hid hl
    have HR := Lib.hid hr
    have HKV : Hid (kpV ls t = keptL t ls) := Lib.hid (by unfold kpV; rw [if_pos hE])
    clear hpt hmi hl hr hE hln
    go_enter Try.func102, Try.ntmps102
    go_wp2_with fail
    refine (withFactor_any t ls a n c _ hn HL.out (HR.out.below (Below.refl w.heap.size w))).mono ?_
    rintro e wv1 ⟨rfl, hb2⟩
    have HB3 : Hid (Below w.heap.size w wv1) := Lib.hid hb2
    clear hb2
    rw [HE.out]
    go_wp2_with fail
    refine (kept_any t ht1 ht2 ls a n c _ h1 hn100 HM.out HL.out (HR.out.below HB3.out)).mono ?_
    rintro e wv5 ⟨aq4, nq4, cq4, rfl, hno, hno2, hlq4, hrq4, hb6⟩
    have HB7 : Hid (Below w.heap.size w wv5) := Lib.hid (HB3.out.trans (hb6.mono HB3.out.size))
    clear hb6
    have HRq4 := Lib.hid hrq4
    have HLq4 := Lib.hid hlq4
    clear hrq4 hlq4
    go_wp2_with fail
    go_ret2
    exact ⟨_, _, _, by rw [HE.out]; rfl, hno, hno2, by rw [HKV.out]; exact HLq4.out, by rw [HKV.out]; exact HRq4.out, HB7.out⟩
  · obtain ⟨E, hEE⟩ : ∃ z, tmE ls t = z := ⟨_, rfl⟩
    have dE : (E != 0) = true := by rw [← hEE]; exact bne_iff_ne.2 hE
    have HE : Hid (tmE ls t = E) := Lib.hid hEE
    have HKV : Hid (kpV ls t = []) := Lib.hid (by unfold kpV; rw [if_neg hE])
    clear hEE hE
    have HL := Lib.hid hl
    have HR := Lib.hid hr
    clear hl hr
    go_enter Try.func102, Try.ntmps102
    go_wp2_with fail
    refine (withFactor_any t ls a n c _ hn HL.out (HR.out.below (Below.refl w.heap.size w))).mono ?_
    rintro e wv1 ⟨rfl, hb2⟩
    have HB3 : Hid (Below w.heap.size w wv1) := Lib.hid hb2
    clear hb2
    rw [HE.out]
    go_wp2_with fail
    go_ret2
    exact ⟨none, 0, 0, by rw [HE.out]; rfl, Nat.zero_le _, Nat.zero_le _, by rw [HKV.out]; rfl, by rw [HKV.out]; exact Rd.nilI, HB3.out⟩
set_option maxHeartbeats 600000 in
theorem imClipMags (t : Int) (ls : List Int) (a : Option Addr) (n c : Nat) (w : World) (hn : n ≤ 1000) (hl : ls.length = n) (hr : Rd eI 1 w a ls) : Calls Try.prog 100 #[.slice a n c, .int .i64 t] w fun e w' => ∃ (a' : Option Addr) (n' c' : Nat), e = .returned (.tuple #[.slice a' n' c', .int .i64 (tmE ls t)]) ∧ n' ≤ n ∧ n' ≤ c' ∧ (clV ls t).length = n' ∧ Rd eI 1 w' a' (clV ls t) ∧ Below w.heap.size w w' := by
  by_cases hE : tmE ls t = 0
  · have hpt := tmE_parts hE
    have HE : Hid (tmE ls t = 0) := Lib.hid hE
    have hln : ls.length = n := hl
    have hmi : MagsIn ls := hpt.2.1
    have h1 : 1 ≤ n := by have := hpt.2.2.1; omega
    have hn100 : n ≤ 100 := by have h8 := (magsB_parts hpt.1).1; omega
    have ht1 : 1 ≤ t := hpt.2.2.2.2.1
    have ht2 : t ≤ 100 := hpt.2.2.2.2.2.1
    have HM := Lib.hid hmi
    have HL := Lib.hid hl
    have HR := Lib.hid hr
    have HKV : Hid (clV ls t = clipL t ls) := Lib.hid (by unfold clV; rw [if_pos hE])
    clear hpt hmi hl hr hE hln
    go_enter Try.func100, Try.ntmps100
    go_wp2_with fail
    refine (withFactor_any t ls a n c _ hn HL.out (HR.out.below (Below.refl w.heap.size w))).mono ?_
    rintro e wv1 ⟨rfl, hb2⟩
    have HB3 : Hid (Below w.heap.size w wv1) := Lib.hid hb2
    clear hb2
    rw [HE.out]
    go_wp2_with fail
    refine (copyOfInt_any ls a n c _ (by omega) HL.out (HR.out.below HB3.out)).mono ?_
    rintro e wv4 ⟨aC, cC, rfl, hoC, hb5⟩
    have HB6 : Hid (Below w.heap.size w wv4) := Lib.hid (HB3.out.trans (hb5.mono HB3.out.size))
    clear hb5
    have HRC := Lib.hid (hoC.rd eI_len (by decide))
    have hcC := hoC.caps.1
    clear hoC
    go_wp2_with fail
    go_loopw [7] (fun v7 wr => ∃ (aR : Option Addr) (nR : Nat) (cR : Nat) (R : List Int), v7 = .slice aR nR cR ∧ 1 ≤ nR ∧ nR ≤ n ∧ nR ≤ cR ∧ Hid (R.length = nR) ∧ Hid (clipL t R = clipL t ls) ∧ Hid (MagsIn R) ∧ Hid (Rd eI 1 wr aR R) ∧ Hid (Below w.heap.size w wr)) (fun v7 _ => lenV v7)
    case atStart => exact ⟨_, _, _, ls, rfl, h1, Nat.le_refl _, hcC, HL, Lib.hid rfl, HM, HRC, HB6⟩
    case round =>
      obtain ⟨aR, nR, cR, R, rfl, hR1, hRn, hRc, HLR, HCR, HMR, HRR, HBk⟩ := hrel
      obtain ⟨wr7, hwr⟩ : ∃ wx, wx = wr := ⟨_, rfl⟩
      subst hwr
      have HB8 := HBk
      clear HBk
      have hR100 : nR ≤ 100 := by omega
      go_wp2_with fail
      refine (kept_any t ht1 ht2 R aR nR cR _ hR1 hR100 HMR.out HLR.out (HRR.out)).mono ?_
      rintro e wv10 ⟨aq9, nq9, cq9, rfl, hno, hno2, hlq9, hrq9, hb11⟩
      have HB12 : Hid (Below w.heap.size w wv10) := Lib.hid (HB8.out.trans (hb11.mono HB8.out.size))
      have HR13 := Lib.hid (HRR.out.below hb11)
      clear hb11
      have HRq9 := Lib.hid hrq9
      have HLq9 := Lib.hid hlq9
      clear hrq9 hlq9
      by_cases hc14 : (nq9 : Int) = (nR : Int)
      · have d15 : ((nq9 : Int) == (nR : Int)) = true := beq_iff_eq.2 hc14
        go_wp2_with fail
        go_ret2
        exact ⟨_, _, _, by rw [HE.out]; rfl, hRn, hRc, by rw [HKV.out, ← HCR.out, clipL_end (by rw [HLq9.out, HLR.out]; omega)]; exact HLR.out, by rw [HKV.out, ← HCR.out, clipL_end (by rw [HLq9.out, HLR.out]; omega)]; exact HR13.out, HB12.out⟩
      · have d16 : ((nq9 : Int) == (nR : Int)) = false := beq_eq_false_iff_ne.2 hc14
        go_wp2_with fail
        have hne : ¬ (keptL t R).length = R.length := by rw [HLq9.out, HLR.out]; omega
        have HCN : Hid (clipL t (keptL t R) = clipL t ls) := Lib.hid ((clipL_more hne).symm.trans HCR.out)
        have hpos : 1 ≤ nq9 := by have h8 := keptL_half HMR.out ht1; rw [HLq9.out, HLR.out] at h8; omega
        clear hne
        go_roundw
        case rel => exact ⟨_, _, _, keptL t R, rfl, hpos, by omega, hno2, HLq9, HCN, Lib.hid (keptL_sub HMR.out), HRq9, HB12⟩
        case measure => simp [lenV]; omega
  · obtain ⟨E, hEE⟩ : ∃ z, tmE ls t = z := ⟨_, rfl⟩
    have dE : (E != 0) = true := by rw [← hEE]; exact bne_iff_ne.2 hE
    have HE : Hid (tmE ls t = E) := Lib.hid hEE
    have HKV : Hid (clV ls t = []) := Lib.hid (by unfold clV; rw [if_neg hE])
    clear hEE hE
    have HL := Lib.hid hl
    have HR := Lib.hid hr
    clear hl hr
    go_enter Try.func100, Try.ntmps100
    go_wp2_with fail
    refine (withFactor_any t ls a n c _ hn HL.out (HR.out.below (Below.refl w.heap.size w))).mono ?_
    rintro e wv1 ⟨rfl, hb2⟩
    have HB3 : Hid (Below w.heap.size w wv1) := Lib.hid hb2
    clear hb2
    rw [HE.out]
    go_wp2_with fail
    go_ret2
    exact ⟨none, 0, 0, by rw [HE.out]; rfl, Nat.zero_le _, Nat.zero_le _, by rw [HKV.out]; rfl, by rw [HKV.out]; exact Rd.nilI, HB3.out⟩
set_option maxHeartbeats 600000 in
theorem imMedianDeviation (ls : List Int) (a : Option Addr) (n c : Nat) (w : World) (hn : n ≤ 1000) (hl : ls.length = n) (hr : Rd eI 1 w a ls) : Calls Try.prog 110 #[.slice a n c] w fun e w' => e = .returned (.tuple #[.int .i64 (mdV ls), .int .i64 (smE ls)]) ∧ Below w.heap.size w w' := by
  by_cases hE : smE ls = 0
  · have hpt := smE_parts hE
    have HE : Hid (smE ls = 0) := Lib.hid hE
    have hln : ls.length = n := hl
    have hmi : MagsIn ls := hpt.2.1
    have h1 : 1 ≤ n := by have := hpt.2.2.1; omega
    have hn100 : n ≤ 100 := by have h8 := (magsB_parts hpt.1).1; omega
    have HM := Lib.hid hmi
    have HL := Lib.hid hl
    have HR := Lib.hid hr
    have HKV : Hid (mdV ls = madI ls) := Lib.hid (by unfold mdV; rw [if_pos hE])
    clear hpt hmi hl hr hE hln
    go_enter Try.func110, Try.ntmps110
    go_wp2_with fail
    refine (someMagsD ls a n c _ hn HL.out (HR.out.below (Below.refl w.heap.size w))).mono ?_
    rintro e wv1 ⟨rfl, hb2⟩
    have HB3 : Hid (Below w.heap.size w wv1) := Lib.hid hb2
    clear hb2
    rw [HE.out]
    go_wp2_with fail
    refine (medDev_any ls a n c _ h1 hn100 HM.out HL.out (HR.out.below HB3.out)).mono ?_
    rintro e wv4 ⟨rfl, hb5⟩
    have HB6 : Hid (Below w.heap.size w wv4) := Lib.hid (HB3.out.trans (hb5.mono HB3.out.size))
    clear hb5
    go_wp2_with fail
    go_ret2
    exact ⟨by rw [HE.out, HKV.out]; rfl, HB6.out⟩
  · obtain ⟨E, hEE⟩ : ∃ z, smE ls = z := ⟨_, rfl⟩
    have dE : (E != 0) = true := by rw [← hEE]; exact bne_iff_ne.2 hE
    have HE : Hid (smE ls = E) := Lib.hid hEE
    have HKV : Hid (mdV ls = 0) := Lib.hid (by unfold mdV; rw [if_neg hE])
    clear hEE hE
    have HL := Lib.hid hl
    have HR := Lib.hid hr
    clear hl hr
    go_enter Try.func110, Try.ntmps110
    go_wp2_with fail
    refine (someMagsD ls a n c _ hn HL.out (HR.out.below (Below.refl w.heap.size w))).mono ?_
    rintro e wv1 ⟨rfl, hb2⟩
    have HB3 : Hid (Below w.heap.size w wv1) := Lib.hid hb2
    clear hb2
    rw [HE.out]
    go_wp2_with fail
    go_ret2
    exact ⟨by rw [HE.out, HKV.out]; rfl, HB3.out⟩
set_option maxHeartbeats 600000 in
theorem spKeptMags (t : Int) (ls : List Int) (a : Option Addr) (n c : Nat) (w : World) (hn : n ≤ 1000) (hl : ls.length = n) (hr : Rd eI 1 w a ls) : Calls Try.prog 103 #[.slice a n c, .int .i64 t] w fun e w' => ∃ (a' : Option Addr) (n' c' : Nat), e = .returned (.tuple #[.slice a' n' c', .int .i64 (tmE ls t)]) ∧ n' ≤ n ∧ n' ≤ c' ∧ (kpV ls t).length = n' ∧ Rd eI 1 w' a' (kpV ls t) ∧ Below w.heap.size w w' := by
  by_cases hE : tmE ls t = 0
  · have hpt := tmE_parts hE
    have HE : Hid (tmE ls t = 0) := Lib.hid hE
    have hln : ls.length = n := hl
    have hmi : MagsIn ls := hpt.2.1
    have h1 : 1 ≤ n := by have := hpt.2.2.1; omega
    have hn100 : n ≤ 100 := by have h8 := (magsB_parts hpt.1).1; omega
    have ht1 : 1 ≤ t := hpt.2.2.2.2.1
    have ht2 : t ≤ 100 := hpt.2.2.2.2.2.1
    have HM := Lib.hid hmi
    have HL := Lib.hid hl
    have HR := Lib.hid hr
    have HKV : Hid (kpV ls t = keptL t ls) := Lib.hid (by unfold kpV; rw [if_pos hE])
    clear hpt hmi hl hr hE hln
    go_enter Try.func103, Try.ntmps103
    go_wp2_with fail
    refine (l21Times_any t ls a n c _ hn HL.out (HR.out.below (Below.refl w.heap.size w))).mono ?_
    rintro e wv1 ⟨rfl, hb2⟩
    have HB3 : Hid (Below w.heap.size w wv1) := Lib.hid hb2
    clear hb2
    rw [HE.out]
    go_wp2_with fail
    refine (l21Kept_any t ht1 ht2 ls a n c _ h1 hn100 HM.out HL.out (HR.out.below HB3.out)).mono ?_
    rintro e wv5 ⟨aq4, nq4, cq4, rfl, hno, hno2, hlq4, hrq4, hb6⟩
    have HB7 : Hid (Below w.heap.size w wv5) := Lib.hid (HB3.out.trans (hb6.mono HB3.out.size))
    clear hb6
    have HRq4 := Lib.hid hrq4
    have HLq4 := Lib.hid hlq4
    clear hrq4 hlq4
    go_wp2_with fail
    go_ret2
    exact ⟨_, _, _, by rw [HE.out]; rfl, hno, hno2, by rw [HKV.out]; exact HLq4.out, by rw [HKV.out]; exact HRq4.out, HB7.out⟩
  · obtain ⟨E, hEE⟩ : ∃ z, tmE ls t = z := ⟨_, rfl⟩
    have dE : (E != 0) = true := by rw [← hEE]; exact bne_iff_ne.2 hE
    have HE : Hid (tmE ls t = E) := Lib.hid hEE
    have HKV : Hid (kpV ls t = []) := Lib.hid (by unfold kpV; rw [if_neg hE])
    clear hEE hE
    have HL := Lib.hid hl
    have HR := Lib.hid hr
    clear hl hr
    go_enter Try.func103, Try.ntmps103
    go_wp2_with fail
    refine (l21Times_any t ls a n c _ hn HL.out (HR.out.below (Below.refl w.heap.size w))).mono ?_
    rintro e wv1 ⟨rfl, hb2⟩
    have HB3 : Hid (Below w.heap.size w wv1) := Lib.hid hb2
    clear hb2
    rw [HE.out]
    go_wp2_with fail
    go_ret2
    exact ⟨none, 0, 0, by rw [HE.out]; rfl, Nat.zero_le _, Nat.zero_le _, by rw [HKV.out]; rfl, by rw [HKV.out]; exact Rd.nilI, HB3.out⟩
set_option maxHeartbeats 600000 in
theorem spClipMags (t : Int) (ls : List Int) (a : Option Addr) (n c : Nat) (w : World) (hn : n ≤ 1000) (hl : ls.length = n) (hr : Rd eI 1 w a ls) : Calls Try.prog 101 #[.slice a n c, .int .i64 t] w fun e w' => ∃ (a' : Option Addr) (n' c' : Nat), e = .returned (.tuple #[.slice a' n' c', .int .i64 (tmE ls t)]) ∧ n' ≤ n ∧ n' ≤ c' ∧ (clV ls t).length = n' ∧ Rd eI 1 w' a' (clV ls t) ∧ Below w.heap.size w w' := by
  by_cases hE : tmE ls t = 0
  · have hpt := tmE_parts hE
    have HE : Hid (tmE ls t = 0) := Lib.hid hE
    have hln : ls.length = n := hl
    have hmi : MagsIn ls := hpt.2.1
    have h1 : 1 ≤ n := by have := hpt.2.2.1; omega
    have hn100 : n ≤ 100 := by have h8 := (magsB_parts hpt.1).1; omega
    have ht1 : 1 ≤ t := hpt.2.2.2.2.1
    have ht2 : t ≤ 100 := hpt.2.2.2.2.2.1
    have HM := Lib.hid hmi
    have HL := Lib.hid hl
    have HR := Lib.hid hr
    have HKV : Hid (clV ls t = clipL t ls) := Lib.hid (by unfold clV; rw [if_pos hE])
    clear hpt hmi hl hr hE hln
    go_enter Try.func101, Try.ntmps101
    go_wp2_with fail
    refine (l21Times_any t ls a n c _ hn HL.out (HR.out.below (Below.refl w.heap.size w))).mono ?_
    rintro e wv1 ⟨rfl, hb2⟩
    have HB3 : Hid (Below w.heap.size w wv1) := Lib.hid hb2
    clear hb2
    rw [HE.out]
    go_wp2_with fail
    refine (l00Own_any ls a n c _ (by omega) HL.out (HR.out.below HB3.out)).mono ?_
    rintro e wv4 ⟨aC, cC, rfl, hoC, hb5⟩
    have HB6 : Hid (Below w.heap.size w wv4) := Lib.hid (HB3.out.trans (hb5.mono HB3.out.size))
    clear hb5
    have HRC := Lib.hid (hoC.rd eI_len (by decide))
    have hcC := hoC.caps.1
    clear hoC
    go_wp2_with fail
    go_loopw [7] (fun v7 wr => ∃ (aR : Option Addr) (nR : Nat) (cR : Nat) (R : List Int), v7 = .slice aR nR cR ∧ 1 ≤ nR ∧ nR ≤ n ∧ nR ≤ cR ∧ Hid (R.length = nR) ∧ Hid (clipL t R = clipL t ls) ∧ Hid (MagsIn R) ∧ Hid (Rd eI 1 wr aR R) ∧ Hid (Below w.heap.size w wr)) (fun v7 _ => lenV v7)
    case atStart => exact ⟨_, _, _, ls, rfl, h1, Nat.le_refl _, hcC, HL, Lib.hid rfl, HM, HRC, HB6⟩
    case round =>
      obtain ⟨aR, nR, cR, R, rfl, hR1, hRn, hRc, HLR, HCR, HMR, HRR, HBk⟩ := hrel
      obtain ⟨wr7, hwr⟩ : ∃ wx, wx = wr := ⟨_, rfl⟩
      subst hwr
      have HB8 := HBk
      clear HBk
      have hR100 : nR ≤ 100 := by omega
      go_wp2_with fail
      refine (l21Kept_any t ht1 ht2 R aR nR cR _ hR1 hR100 HMR.out HLR.out (HRR.out)).mono ?_
      rintro e wv10 ⟨aq9, nq9, cq9, rfl, hno, hno2, hlq9, hrq9, hb11⟩
      have HB12 : Hid (Below w.heap.size w wv10) := Lib.hid (HB8.out.trans (hb11.mono HB8.out.size))
      have HR13 := Lib.hid (HRR.out.below hb11)
      clear hb11
      have HRq9 := Lib.hid hrq9
      have HLq9 := Lib.hid hlq9
      clear hrq9 hlq9
      by_cases hc14 : (nq9 : Int) = (nR : Int)
      · have d15 : ((nq9 : Int) == (nR : Int)) = true := beq_iff_eq.2 hc14
        go_wp2_with fail
        go_ret2
        exact ⟨_, _, _, by rw [HE.out]; rfl, hRn, hRc, by rw [HKV.out, ← HCR.out, clipL_end (by rw [HLq9.out, HLR.out]; omega)]; exact HLR.out, by rw [HKV.out, ← HCR.out, clipL_end (by rw [HLq9.out, HLR.out]; omega)]; exact HR13.out, HB12.out⟩
      · have d16 : ((nq9 : Int) == (nR : Int)) = false := beq_eq_false_iff_ne.2 hc14
        go_wp2_with fail
        have hne : ¬ (keptL t R).length = R.length := by rw [HLq9.out, HLR.out]; omega
        have HCN : Hid (clipL t (keptL t R) = clipL t ls) := Lib.hid ((clipL_more hne).symm.trans HCR.out)
        have hpos : 1 ≤ nq9 := by have h8 := keptL_half HMR.out ht1; rw [HLq9.out, HLR.out] at h8; omega
        clear hne
        go_roundw
        case rel => exact ⟨_, _, _, keptL t R, rfl, hpos, by omega, hno2, HLq9, HCN, Lib.hid (keptL_sub HMR.out), HRq9, HB12⟩
        case measure => simp [lenV]; omega
  · obtain ⟨E, hEE⟩ : ∃ z, tmE ls t = z := ⟨_, rfl⟩
    have dE : (E != 0) = true := by rw [← hEE]; exact bne_iff_ne.2 hE
    have HE : Hid (tmE ls t = E) := Lib.hid hEE
    have HKV : Hid (clV ls t = []) := Lib.hid (by unfold clV; rw [if_neg hE])
    clear hEE hE
    have HL := Lib.hid hl
    have HR := Lib.hid hr
    clear hl hr
    go_enter Try.func101, Try.ntmps101
    go_wp2_with fail
    refine (l21Times_any t ls a n c _ hn HL.out (HR.out.below (Below.refl w.heap.size w))).mono ?_
    rintro e wv1 ⟨rfl, hb2⟩
    have HB3 : Hid (Below w.heap.size w wv1) := Lib.hid hb2
    clear hb2
    rw [HE.out]
    go_wp2_with fail
    go_ret2
    exact ⟨none, 0, 0, by rw [HE.out]; rfl, Nat.zero_le _, Nat.zero_le _, by rw [HKV.out]; rfl, by rw [HKV.out]; exact Rd.nilI, HB3.out⟩
set_option maxHeartbeats 600000 in
theorem spMedianDeviation (ls : List Int) (a : Option Addr) (n c : Nat) (w : World) (hn : n ≤ 1000) (hl : ls.length = n) (hr : Rd eI 1 w a ls) : Calls Try.prog 111 #[.slice a n c] w fun e w' => e = .returned (.tuple #[.int .i64 (mdV ls), .int .i64 (smE ls)]) ∧ Below w.heap.size w w' := by
  by_cases hE : smE ls = 0
  · have hpt := smE_parts hE
    have HE : Hid (smE ls = 0) := Lib.hid hE
    have hln : ls.length = n := hl
    have hmi : MagsIn ls := hpt.2.1
    have h1 : 1 ≤ n := by have := hpt.2.2.1; omega
    have hn100 : n ≤ 100 := by have h8 := (magsB_parts hpt.1).1; omega
    have HM := Lib.hid hmi
    have HL := Lib.hid hl
    have HR := Lib.hid hr
    have HKV : Hid (mdV ls = madI ls) := Lib.hid (by unfold mdV; rw [if_pos hE])
    clear hpt hmi hl hr hE hln
    go_enter Try.func111, Try.ntmps111
    go_wp2_with fail
    refine (l21Some_any ls a n c _ hn HL.out (HR.out.below (Below.refl w.heap.size w))).mono ?_
    rintro e wv1 ⟨rfl, hb2⟩
    have HB3 : Hid (Below w.heap.size w wv1) := Lib.hid hb2
    clear hb2
    rw [HE.out]
    go_wp2_with fail
    refine (l21Median_any ls a n c _ h1 hn100 HM.out HL.out (HR.out.below HB3.out)).mono ?_
    rintro e wv4 ⟨rfl, hb5⟩
    have HB6 : Hid (Below w.heap.size w wv4) := Lib.hid (HB3.out.trans (hb5.mono HB3.out.size))
    clear hb5
    go_wp2_with fail
    go_ret2
    exact ⟨by rw [HE.out, HKV.out]; rfl, HB6.out⟩
  · obtain ⟨E, hEE⟩ : ∃ z, smE ls = z := ⟨_, rfl⟩
    have dE : (E != 0) = true := by rw [← hEE]; exact bne_iff_ne.2 hE
    have HE : Hid (smE ls = E) := Lib.hid hEE
    have HKV : Hid (mdV ls = 0) := Lib.hid (by unfold mdV; rw [if_neg hE])
    clear hEE hE
    have HL := Lib.hid hl
    have HR := Lib.hid hr
    clear hl hr
    go_enter Try.func111, Try.ntmps111
    go_wp2_with fail
    refine (l21Some_any ls a n c _ hn HL.out (HR.out.below (Below.refl w.heap.size w))).mono ?_
    rintro e wv1 ⟨rfl, hb2⟩
    have HB3 : Hid (Below w.heap.size w wv1) := Lib.hid hb2
    clear hb2
    rw [HE.out]
    go_wp2_with fail
    go_ret2
    exact ⟨by rw [HE.out, HKV.out]; rfl, HB3.out⟩
set_option maxHeartbeats 600000 in
theorem imDeviationsFrom (m : Int) (ls : List Int) (a : Option Addr) (n c : Nat) (w : World) (hn : n ≤ 1000) (hl : ls.length = n) (hr : Rd eI 1 w a ls) : Calls Try.prog 105 #[.slice a n c, .int .i64 m] w fun e w' => ∃ (a' : Option Addr) (n' c' : Nat), e = .returned (.tuple #[.slice a' n' c', .int .i64 (dfE ls m)]) ∧ n' ≤ n ∧ n' ≤ c' ∧ (dfL ls m).length = n' ∧ Rd eI 1 w' a' (dfL ls m) ∧ Below w.heap.size w w' := by
  by_cases hmag : magsB ls = true
  · by_cases hin : inB m (-2000) 20000 = true
    · have hmm : -2000 ≤ m ∧ m ≤ 20000 := inB_iff.1 hin
      have hm1 := hmm.1
      have hm2 := hmm.2
      clear hmm
      have hE : dfE ls m = 0 := by unfold dfE; simp [hmag, hin]
      have HE := Lib.hid hE
      have HKV : Hid (dfL ls m = awL m ls) := Lib.hid (by unfold dfL; rw [if_pos hE])
      clear hE
      have hmg : magsB ls = true := by simpa using hmag
      have CL : Hid (∀ wq, Rd eI 1 wq a ls → Calls Try.prog 158 #[.slice a n c] wq fun e w' => e = .returned (.int .i64 0) ∧ Below wq.heap.size wq w') := Lib.hid fun wq h1 => by have h := l02List_any ls a n c wq (by omega) hl h1; unfold listC at h; rw [if_pos hmag] at h; exact h
      have hmi := MagsIn.of hmag
      have HM := Lib.hid hmi
      have hn100 : n ≤ 100 := by have := (magsB_parts hmag).1; omega
      clear hmi
      have HL := Lib.hid hl
      have HR := Lib.hid hr
      clear hl hr
      have HMG := Lib.hid hmag
      clear hmag
      go_enter Try.func105, Try.ntmps105
      go_wp2_with fail
      refine (areMagsM ls a n c _ (by omega) HL.out (HR.out.below (Below.refl w.heap.size w))).mono ?_
      rintro e wv1 ⟨rfl, hb2⟩
      have HB3 : Hid (Below w.heap.size w wv1) := Lib.hid hb2
      clear hb2
      go_wp2_with fail
      refine (ValidMag_lit m _ _ rfl).mono ?_
      rintro e wz ⟨rfl, rfl⟩
      go_wp2_with fail
      refine (distances_any m hm1 hm2 ls a n c _ hn100 HM.out HL.out (HR.out.below HB3.out)).mono ?_
      rintro e wv4 ⟨aA, cA, rfl, hoA, hb5⟩
      have HB6 : Hid (Below w.heap.size w wv4) := Lib.hid (HB3.out.trans (hb5.mono HB3.out.size))
      clear hb5
      have HRA := Lib.hid (hoA.rd eI_len (by decide))
      have hcA := hoA.caps.1
      clear hoA
      go_wp2_with fail
      go_ret2
      exact ⟨_, _, _, by rw [HE.out]; rfl, Nat.le_refl _, hcA, by rw [HKV.out, awL_len]; exact HL.out, by rw [HKV.out]; exact HRA.out, HB6.out⟩
    · have hin2 : inB m (-2000) 20000 = false := by simpa using hin
      have hE : dfE ls m = 2 := by unfold dfE; simp [hin]
      have HE := Lib.hid hE
      have HKV : Hid (dfL ls m = []) := Lib.hid (by unfold dfL; rw [if_neg (by rw [hE]; decide)])
      clear hE
      have hmg : magsB ls = true := by simpa using hmag
      have CL : Hid (∀ wq, Rd eI 1 wq a ls → Calls Try.prog 158 #[.slice a n c] wq fun e w' => e = .returned (.int .i64 0) ∧ Below wq.heap.size wq w') := Lib.hid fun wq h1 => by have h := l02List_any ls a n c wq (by omega) hl h1; unfold listC at h; rw [if_pos hmag] at h; exact h
      have hmi := MagsIn.of hmag
      have HM := Lib.hid hmi
      have hn100 : n ≤ 100 := by have := (magsB_parts hmag).1; omega
      clear hmi
      have HL := Lib.hid hl
      have HR := Lib.hid hr
      clear hl hr
      have HMG := Lib.hid hmag
      clear hmag
      go_enter Try.func105, Try.ntmps105
      go_wp2_with fail
      refine (areMagsM ls a n c _ (by omega) HL.out (HR.out.below (Below.refl w.heap.size w))).mono ?_
      rintro e wv1 ⟨rfl, hb2⟩
      have HB3 : Hid (Below w.heap.size w wv1) := Lib.hid hb2
      clear hb2
      go_wp2_with fail
      refine (ValidMag_lit m _ _ rfl).mono ?_
      rintro e wz ⟨rfl, rfl⟩
      go_wp2_with fail
      go_ret2
      exact ⟨none, 0, 0, by rw [HE.out]; rfl, Nat.zero_le _, Nat.zero_le _, by rw [HKV.out]; rfl, by rw [HKV.out]; exact Rd.nilI, HB3.out⟩
  · have hE : dfE ls m = 2 := by unfold dfE; simp [hmag]
    have HE := Lib.hid hE
    have HKV : Hid (dfL ls m = []) := Lib.hid (by unfold dfL; rw [if_neg (by rw [hE]; decide)])
    clear hE
    have hmg : magsB ls = false := by simpa using hmag
    have CL : Hid (∀ wq, Rd eI 1 wq a ls → Calls Try.prog 158 #[.slice a n c] wq fun e w' => e = .returned (.int .i64 2) ∧ Below wq.heap.size wq w') := Lib.hid fun wq h1 => by have h := l02List_any ls a n c wq (by omega) hl h1; unfold listC at h; rw [if_neg hmag] at h; exact h
    have HL := Lib.hid hl
    have HR := Lib.hid hr
    clear hl hr
    have HMG := Lib.hid hmag
    clear hmag
    go_enter Try.func105, Try.ntmps105
    go_wp2_with fail
    refine (areMagsM ls a n c _ (by omega) HL.out (HR.out.below (Below.refl w.heap.size w))).mono ?_
    rintro e wv1 ⟨rfl, hb2⟩
    have HB3 : Hid (Below w.heap.size w wv1) := Lib.hid hb2
    clear hb2
    go_wp2_with fail
    go_ret2
    exact ⟨none, 0, 0, by rw [HE.out]; rfl, Nat.zero_le _, Nat.zero_le _, by rw [HKV.out]; rfl, by rw [HKV.out]; exact Rd.nilI, HB3.out⟩
set_option maxHeartbeats 600000 in
theorem spDeviationsFrom (m : Int) (ls : List Int) (a : Option Addr) (n c : Nat) (w : World) (hn : n ≤ 1000) (hl : ls.length = n) (hr : Rd eI 1 w a ls) : Calls Try.prog 106 #[.slice a n c, .int .i64 m] w fun e w' => ∃ (a' : Option Addr) (n' c' : Nat), e = .returned (.tuple #[.slice a' n' c', .int .i64 (dfE ls m)]) ∧ n' ≤ n ∧ n' ≤ c' ∧ (dfL ls m).length = n' ∧ Rd eI 1 w' a' (dfL ls m) ∧ Below w.heap.size w w' := by
  by_cases hmag : magsB ls = true
  · by_cases hin : inB m (-2000) 20000 = true
    · have hmm : -2000 ≤ m ∧ m ≤ 20000 := inB_iff.1 hin
      have hm1 := hmm.1
      have hm2 := hmm.2
      clear hmm
      have hE : dfE ls m = 0 := by unfold dfE; simp [hmag, hin]
      have HE := Lib.hid hE
      have HKV : Hid (dfL ls m = awL m ls) := Lib.hid (by unfold dfL; rw [if_pos hE])
      clear hE
      have hmg : magsB ls = true := by simpa using hmag
      have CL : Hid (∀ wq, Rd eI 1 wq a ls → Calls Try.prog 158 #[.slice a n c] wq fun e w' => e = .returned (.int .i64 0) ∧ Below wq.heap.size wq w') := Lib.hid fun wq h1 => by have h := l02List_any ls a n c wq (by omega) hl h1; unfold listC at h; rw [if_pos hmag] at h; exact h
      have hmi := MagsIn.of hmag
      have HM := Lib.hid hmi
      have hn100 : n ≤ 100 := by have := (magsB_parts hmag).1; omega
      clear hmi
      have HL := Lib.hid hl
      have HR := Lib.hid hr
      clear hl hr
      have HMG := Lib.hid hmag
      clear hmag
      go_enter Try.func106, Try.ntmps106
      go_wp2_with fail
      refine (CL.out _ (HR.out.below (Below.refl w.heap.size w))).mono ?_
      rintro e wv1 ⟨rfl, hb2⟩
      have HB3 : Hid (Below w.heap.size w wv1) := Lib.hid hb2
      clear hb2
      go_wp2_with fail
      refine (l02Mag_lit m _ _ rfl).mono ?_
      rintro e wz ⟨rfl, rfl⟩
      go_wp2_with fail
      refine (l21Away_any m hm1 hm2 ls a n c _ hn100 HM.out HL.out (HR.out.below HB3.out)).mono ?_
      rintro e wv4 ⟨aA, cA, rfl, hoA, hb5⟩
      have HB6 : Hid (Below w.heap.size w wv4) := Lib.hid (HB3.out.trans (hb5.mono HB3.out.size))
      clear hb5
      have HRA := Lib.hid (hoA.rd eI_len (by decide))
      have hcA := hoA.caps.1
      clear hoA
      go_wp2_with fail
      go_ret2
      exact ⟨_, _, _, by rw [HE.out]; rfl, Nat.le_refl _, hcA, by rw [HKV.out, awL_len]; exact HL.out, by rw [HKV.out]; exact HRA.out, HB6.out⟩
    · have hin2 : inB m (-2000) 20000 = false := by simpa using hin
      have hE : dfE ls m = 2 := by unfold dfE; simp [hin]
      have HE := Lib.hid hE
      have HKV : Hid (dfL ls m = []) := Lib.hid (by unfold dfL; rw [if_neg (by rw [hE]; decide)])
      clear hE
      have hmg : magsB ls = true := by simpa using hmag
      have CL : Hid (∀ wq, Rd eI 1 wq a ls → Calls Try.prog 158 #[.slice a n c] wq fun e w' => e = .returned (.int .i64 0) ∧ Below wq.heap.size wq w') := Lib.hid fun wq h1 => by have h := l02List_any ls a n c wq (by omega) hl h1; unfold listC at h; rw [if_pos hmag] at h; exact h
      have hmi := MagsIn.of hmag
      have HM := Lib.hid hmi
      have hn100 : n ≤ 100 := by have := (magsB_parts hmag).1; omega
      clear hmi
      have HL := Lib.hid hl
      have HR := Lib.hid hr
      clear hl hr
      have HMG := Lib.hid hmag
      clear hmag
      go_enter Try.func106, Try.ntmps106
      go_wp2_with fail
      refine (CL.out _ (HR.out.below (Below.refl w.heap.size w))).mono ?_
      rintro e wv1 ⟨rfl, hb2⟩
      have HB3 : Hid (Below w.heap.size w wv1) := Lib.hid hb2
      clear hb2
      go_wp2_with fail
      refine (l02Mag_lit m _ _ rfl).mono ?_
      rintro e wz ⟨rfl, rfl⟩
      go_wp2_with fail
      go_ret2
      exact ⟨none, 0, 0, by rw [HE.out]; rfl, Nat.zero_le _, Nat.zero_le _, by rw [HKV.out]; rfl, by rw [HKV.out]; exact Rd.nilI, HB3.out⟩
  · have hE : dfE ls m = 2 := by unfold dfE; simp [hmag]
    have HE := Lib.hid hE
    have HKV : Hid (dfL ls m = []) := Lib.hid (by unfold dfL; rw [if_neg (by rw [hE]; decide)])
    clear hE
    have hmg : magsB ls = false := by simpa using hmag
    have CL : Hid (∀ wq, Rd eI 1 wq a ls → Calls Try.prog 158 #[.slice a n c] wq fun e w' => e = .returned (.int .i64 2) ∧ Below wq.heap.size wq w') := Lib.hid fun wq h1 => by have h := l02List_any ls a n c wq (by omega) hl h1; unfold listC at h; rw [if_neg hmag] at h; exact h
    have HL := Lib.hid hl
    have HR := Lib.hid hr
    clear hl hr
    have HMG := Lib.hid hmag
    clear hmag
    go_enter Try.func106, Try.ntmps106
    go_wp2_with fail
    refine (CL.out _ (HR.out.below (Below.refl w.heap.size w))).mono ?_
    rintro e wv1 ⟨rfl, hb2⟩
    have HB3 : Hid (Below w.heap.size w wv1) := Lib.hid hb2
    clear hb2
    go_wp2_with fail
    go_ret2
    exact ⟨none, 0, 0, by rw [HE.out]; rfl, Nat.zero_le _, Nat.zero_le _, by rw [HKV.out]; rfl, by rw [HKV.out]; exact Rd.nilI, HB3.out⟩
end Go.Proofs.Ytloggipjmaiegaa
