/-
  A number in a list; valid worths.
-/
import Derived.Test.YtkbcjegfobngaaaDoorAs1
import Derived.Test.YtkbcjegfobngaaaDoorAsP
import Derived.Test.YtkbcjegfobngaaaDoorFind
import Derived.Test.YtkbcjegfobngaaaDoorWords
namespace Go.Proofs.YtkbcjegfobngaaaDoor
open Go.RowKit
set_option maxRecDepth 100000
set_option linter.unusedVariables false
set_option linter.unusedSimpArgs false
theorem Rd.takeA {w : World} {a : Option Addr} {xs : List Int} (h : Rd eI 1 w a xs) (m : Nat) : Rd eI 1 w a (xs.take m) := fun i x hx => by
  rw [List.getElem?_take] at hx
  split at hx
  · exact h i x hx
  · cases hx
theorem take_snA {α : Type} {l : List α} {k : Nat} {x : α} (h : l[k]? = some x) : l.take (k + 1) = l.take k ++ [x] := by
  rw [List.take_add_one, h]; rfl
theorem has_no {l : List Int} {k : Nat} {x y : Int} (hy : l[k]? = some y) (hyx : ¬ y = x) (h9 : (l.take k).contains x = false) : (l.take (k + 1)).contains x = false := by
  rw [take_snA hy]
  have h8 : ¬ x = y := fun e => hyx e.symm
  simp only [List.contains_eq_mem, decide_eq_false_iff_not] at h9 ⊢
  simp [h9, h8]
set_option maxHeartbeats 1000000 in
theorem a2HasA (l : List Int) (x : Int) (a : Option Addr) (n c : Nat) (w : World) (hn : n ≤ 1000000) (hl : l.length = n) (hr : Rd eI 1 w a l) : Calls Tryd.prog 14 #[.slice a n c, .int .i64 x] w fun e w' => e = .returned (.bool (l.contains x)) ∧ w = w' := by
  have HL := Lib.hid hl
  have HR := Lib.hid hr
  clear hl hr
  go_enter Tryd.func14, Tryd.ntmps14
  go_wp2_with fail
  go_loopw [5] (fun i wr => ∃ k : Nat, k ≤ n ∧ i = .int .i64 k ∧ Hid ((l.take k).contains x = false) ∧ w = wr) (fun i _ => n - (intOf i).toNat)
  case atStart => exact ⟨0, Nat.zero_le _, rfl, Lib.hid (by simp), rfl⟩
  case round =>
  obtain ⟨k, hk, rfl, HK, rfl⟩ := hrel
  by_cases hlt : k < n
  · obtain ⟨y, hy⟩ : ∃ z, l[k]? = some z := ⟨_, List.getElem?_eq_getElem (by rw [HL.out]; exact hlt)⟩
    obtain ⟨b, oo, he, hc⟩ := HR.out.at1 hy (u := .int .i64 y) rfl
    subst he
    have x0 := hc.2
    have j0 : (0 : Int) ≤ (k : Nat) := by omega
    have j1 : ((k : Nat) : Int) < (n : Nat) := by omega
    by_cases hyx : y = x
    · have dy : (y == x) = true := beq_iff_eq.2 (by rw [hyx])
      have HT : Hid (l.contains x = true) := Lib.hid (by rw [← hyx]; simpa using List.mem_of_getElem? hy)
      clear hy hc hyx
      go_wp2_with fail
      go_ret
      exact ⟨by rw [HT.out]; rfl, rfl⟩
    · have dy : (y == x) = false := beq_eq_false_iff_ne.2 hyx
      have HN : Hid ((l.take (k + 1)).contains x = false) := Lib.hid (has_no hy hyx HK.out)
      clear hy hc hyx
      go_wp2_with fail
      go_roundw
      case rel => exact ⟨k + 1, by omega, by go_num, HN, by first | rfl | trivial⟩
      case measure => simp [intOf]; omega
  · obtain rfl : n = k := by omega
    have HF : Hid (l.contains x = false) := Lib.hid (by have h9 := HK.out; rwa [List.take_of_length_le (by rw [HL.out]; omega)] at h9)
    go_wp2_with fail
    go_ret
    exact ⟨by rw [HF.out]; rfl, rfl⟩
set_option maxHeartbeats 1000000 in
theorem l00HasA (l : List Int) (x : Int) (a : Option Addr) (n c : Nat) (w : World) (hn : n ≤ 1000000) (hl : l.length = n) (hr : Rd eI 1 w a l) : Calls Tryd.prog 37 #[.slice a n c, .int .i64 x] w fun e w' => e = .returned (.bool (l.contains x)) ∧ w = w' := by
  have HL := Lib.hid hl
  have HR := Lib.hid hr
  clear hl hr
  go_enter Tryd.func37, Tryd.ntmps37
  go_wp2_with fail
  go_loopw [5] (fun i wr => ∃ k : Nat, k ≤ n ∧ i = .int .i64 k ∧ Hid ((l.take k).contains x = false) ∧ w = wr) (fun i _ => n - (intOf i).toNat)
  case atStart => exact ⟨0, Nat.zero_le _, rfl, Lib.hid (by simp), rfl⟩
  case round =>
  obtain ⟨k, hk, rfl, HK, rfl⟩ := hrel
  by_cases hlt : k < n
  · obtain ⟨y, hy⟩ : ∃ z, l[k]? = some z := ⟨_, List.getElem?_eq_getElem (by rw [HL.out]; exact hlt)⟩
    obtain ⟨b, oo, he, hc⟩ := HR.out.at1 hy (u := .int .i64 y) rfl
    subst he
    have x0 := hc.2
    have j0 : (0 : Int) ≤ (k : Nat) := by omega
    have j1 : ((k : Nat) : Int) < (n : Nat) := by omega
    by_cases hyx : y = x
    · have dy : (y == x) = true := beq_iff_eq.2 (by rw [hyx])
      have HT : Hid (l.contains x = true) := Lib.hid (by rw [← hyx]; simpa using List.mem_of_getElem? hy)
      clear hy hc hyx
      go_wp2_with fail
      go_ret
      exact ⟨by rw [HT.out]; rfl, rfl⟩
    · have dy : (y == x) = false := beq_eq_false_iff_ne.2 hyx
      have HN : Hid ((l.take (k + 1)).contains x = false) := Lib.hid (has_no hy hyx HK.out)
      clear hy hc hyx
      go_wp2_with fail
      go_roundw
      case rel => exact ⟨k + 1, by omega, by go_num, HN, by first | rfl | trivial⟩
      case measure => simp [intOf]; omega
  · obtain rfl : n = k := by omega
    have HF : Hid (l.contains x = false) := Lib.hid (by have h9 := HK.out; rwa [List.take_of_length_le (by rw [HL.out]; omega)] at h9)
    go_wp2_with fail
    go_ret
    exact ⟨by rw [HF.out]; rfl, rfl⟩
set_option maxHeartbeats 1000000 in
theorem slIndexA (l : List Int) (x : Int) (a : Option Addr) (n c : Nat) (w : World) (hn : n ≤ 1000000) (hl : l.length = n) (hr : Rd eI 1 w a l) : Calls Tryd.prog 34 #[.slice a n c, .int .i64 x] w fun e w' => ∃ r : Int, e = .returned (.int .i64 r) ∧ l.contains x = decide (0 ≤ r) ∧ w = w' := by
  have HL := Lib.hid hl
  have HR := Lib.hid hr
  clear hl hr
  go_enter Tryd.func34, Tryd.ntmps34
  go_wp2_with fail
  go_loopw [8] (fun i wr => ∃ k : Nat, k ≤ n ∧ i = .int .i64 k ∧ Hid ((l.take k).contains x = false) ∧ w = wr) (fun i _ => n - (intOf i).toNat)
  case atStart => exact ⟨0, Nat.zero_le _, rfl, Lib.hid (by simp), rfl⟩
  case round =>
  obtain ⟨k, hk, rfl, HK, rfl⟩ := hrel
  by_cases hlt : k < n
  · obtain ⟨y, hy⟩ : ∃ z, l[k]? = some z := ⟨_, List.getElem?_eq_getElem (by rw [HL.out]; exact hlt)⟩
    obtain ⟨b, oo, he, hc⟩ := HR.out.at1 hy (u := .int .i64 y) rfl
    subst he
    have x0 := hc.2
    have j0 : (0 : Int) ≤ (k : Nat) := by omega
    have j1 : ((k : Nat) : Int) < (n : Nat) := by omega
    by_cases hyx : y = x
    · have dy : (x == y) = true := beq_iff_eq.2 (by rw [hyx])
      have HT : Hid (l.contains x = true) := Lib.hid (by rw [← hyx]; simpa using List.mem_of_getElem? hy)
      clear hy hc hyx
      go_wp2_with fail
      go_ret
      exact ⟨k, rfl, by rw [HT.out, decide_eq_true (by omega)], rfl⟩
    · have dy : (x == y) = false := beq_eq_false_iff_ne.2 (fun e => hyx e.symm)
      have HN : Hid ((l.take (k + 1)).contains x = false) := Lib.hid (has_no hy hyx HK.out)
      clear hy hc hyx
      go_wp2_with fail
      go_roundw
      case rel => exact ⟨k + 1, by omega, by go_num, HN, by first | rfl | trivial⟩
      case measure => simp [intOf]; omega
  · obtain rfl : n = k := by omega
    have HF : Hid (l.contains x = false) := Lib.hid (by have h9 := HK.out; rwa [List.take_of_length_le (by rw [HL.out]; omega)] at h9)
    go_wp2_with fail
    go_ret
    exact ⟨-1, rfl, by rw [HF.out]; rfl, rfl⟩
theorem slHasA (l : List Int) (x : Int) (a : Option Addr) (n c : Nat) (w : World) (hn : n ≤ 1000000) (hl : l.length = n) (hr : Rd eI 1 w a l) : Calls Tryd.prog 20 #[.slice a n c, .int .i64 x] w fun e w' => e = .returned (.bool (l.contains x)) ∧ w = w' := by
  have HL := Lib.hid hl
  have HR := Lib.hid hr
  clear hl hr
  go_enter Tryd.func20, Tryd.ntmps20
  go_wp2_with fail
  refine (slIndexA l x a n c _ hn HL.out HR.out).mono ?_
  rintro e w1 ⟨r, rfl, hr, rfl⟩
  have HE := Lib.hid hr
  clear hr
  go_wp2_with fail
  go_ret
  exact ⟨by rw [HE.out]; rfl, rfl⟩
/-- a table of worths -/
structure WtQ (m n : Nat) (rs : List GRow) : Prop where
  len : rs.length = m
  m1 : 1 ≤ m
  m4 : m ≤ 4
  n1 : 1 ≤ n
  n4 : n ≤ 4
  row : ∀ r ∈ rs, WRow n r
def wF (rs : List GRow) (i k : Nat) : Int := ((rs.map GRow.xs).getD i []).getD k 0
theorem WtQ.at_ {m n : Nat} {rs : List GRow} (h : WtQ m n rs) {i : Nat} (hi : i < m) : ∃ r, rs[i]? = some r ∧ WRow n r := by
  have e := List.getElem?_eq_getElem (show i < rs.length by rw [h.len]; exact hi)
  exact ⟨_, e, h.row _ (List.mem_of_getElem? e)⟩
theorem wF_eq {rs : List GRow} {r : GRow} {i k : Nat} {x : Int} (hr : rs[i]? = some r) (hx : r.xs[k]? = some x) : wF rs i k = x := by
  unfold wF
  simp [List.getD, List.getElem?_map, hr, hx]
theorem WtQ.bd {m n : Nat} {rs : List GRow} (h : WtQ m n rs) (i k : Nat) : 0 ≤ wF rs i k ∧ wF rs i k ≤ 11 := by
  unfold wF
  by_cases hi : i < m
  · obtain ⟨r, hr, h1, h2, h3⟩ := h.at_ hi
    have e : (rs.map GRow.xs).getD i [] = r.xs := by simp [List.getD, List.getElem?_map, hr]
    rw [e]
    cases hx : r.xs[k]? with
    | none => simp [List.getD, hx]
    | some x => have := h3 x (List.mem_of_getElem? hx); simp [List.getD, hx]; omega
  · have e : (rs.map GRow.xs).getD i [] = [] := by simp [List.getD, List.getElem?_eq_none (show (rs.map GRow.xs).length ≤ i by rw [List.length_map, h.len]; omega)]
    rw [e]; simp [List.getD]
theorem WRow.allIn {n : Nat} {r : GRow} (h : WRow n r) : (r.xs.all fun x => inB x 0 1000) = true := by
  rw [List.all_eq_true]
  intro x hx
  have := h.2.2 x hx
  exact inB_iff.2 ⟨by omega, by omega⟩
set_option maxHeartbeats 2000000 in
theorem validWA (m n : Nat) (rs : List GRow) (a : Option Addr) (c : Nat) (w : World) (hq : WtQ m n rs) (hr : GrR w a rs) : Calls Tryd.prog 17 #[.slice a m c] w fun e w' => e = .returned (.bool true) ∧ Below w.heap.size w w' := by
  have HQ := Lib.hid hq
  have HR := Lib.hid hr
  have hm1 := hq.m1
  have hm4 := hq.m4
  have hn1 := hq.n1
  have hn4 := hq.n4
  have d1 : decide ((m : Int) < 1) = false := decide_eq_false (by omega)
  have d2 : decide ((6 : Int) < (m : Int)) = false := decide_eq_false (by omega)
  clear hq hr
  go_enter Tryd.func17, Tryd.ntmps17
  go_wp2_with fail
  clear d1 d2
  go_loopw [15] (fun i wr => ∃ k : Nat, k ≤ m ∧ i = .int .i64 k ∧ Hid (Below w.heap.size w wr)) (fun i _ => m - (intOf i).toNat)
  case atStart => exact ⟨0, Nat.zero_le _, rfl, Lib.hid (Below.refl _ _)⟩
  case round =>
  obtain ⟨k, hk, rfl, HB⟩ := hrel
  obtain ⟨wA, hwA⟩ : ∃ wx, wx = wr := ⟨_, rfl⟩
  subst hwA
  by_cases hlt : k < m
  · obtain ⟨r, hr, h1, h2, h3⟩ := HQ.out.at_ hlt
    obtain ⟨r0, hr0, g1, g2, g3⟩ := HQ.out.at_ (show 0 < m by omega)
    have HRA := HR.out.below HB.out
    have HROW := Lib.hid (HRA.2 r (List.mem_of_getElem? hr)).1
    have HRL := Lib.hid h2
    have HALL := Lib.hid (WRow.allIn ⟨h1, h2, h3⟩)
    obtain ⟨b, oo, hab, hC⟩ := HRA.1.addr1 (f := fun r : GRow => Value.slice r.a r.n r.c) (by rw [HQ.out.len]; omega) (fun _ => rfl)
    subst hab
    have x0 : wA.cell? ⟨b, oo + k, none⟩ = some (.slice r.a r.n r.c) := hC k r hr wA (Below.refl _ _)
    have x1 : wA.cell? ⟨b, oo, none⟩ = some (.slice r0.a r0.n r0.c) := by have h9 := hC 0 r0 hr0 wA (Below.refl _ _); rwa [Nat.add_zero] at h9
    rw [h1] at x0
    rw [g1] at x1
    have j0 : (0 : Int) ≤ (k : Nat) := by omega
    have j1 : ((k : Nat) : Int) < (m : Nat) := by omega
    have d1 : decide ((n : Int) < 1) = false := decide_eq_false (by omega)
    have d2 : decide ((8 : Int) < (n : Int)) = false := decide_eq_false (by omega)
    have d3 : ((n : Int) != (n : Int)) = false := by simp
    clear hr h1 h2 h3 hr0 g1 g2 g3 HRA hC
    go_wp2_with fail
    refine (allIn_any r.xs 0 1000 r.a n r.c _ (by omega) HRL.out HROW.out).mono ?_
    rintro e w2 ⟨rfl, hb2⟩
    rw [HALL.out]
    have HB2 := Lib.hid (HB.out.trans (hb2.mono HB.out.size))
    clear hb2
    go_wp2_with fail
    go_roundw
    case rel => exact ⟨k + 1, by omega, by go_num, HB2⟩
    case measure => simp [intOf]; omega
  · go_wp2_with fail
    go_ret
    exact ⟨rfl, HB.out⟩
end Go.Proofs.YtkbcjegfobngaaaDoor
