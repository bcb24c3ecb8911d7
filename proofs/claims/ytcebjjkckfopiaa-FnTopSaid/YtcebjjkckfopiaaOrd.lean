/-
  Indices in the order of a number: 'orderBy' at a closure that folds a curve.
-/
import Derived.Test.YtcebjjkckfopiaaSrtP
import Derived.Test.YtcebjjkckfopiaaWhere
import Derived.Test.YtcebjjkckfopiaaBo
import Derived.Test.YtcebjjkckfopiaaQTail
import Derived.Test.YtcebjjkckfopiaaErr8
import Derived.Deep.RegionHeld3
import Derived.Deep.Cut
import Derived.BigQuiet
import Derived.BigRegion
namespace Go.Proofs.Ytcebjjkckfopiaa
open Go.RowKit
set_option maxRecDepth 100000
set_option linter.unusedVariables false
theorem InsI.step' {key : Int → Int} {X L : List Int} {i m : Nat} {x p : Int} (h : InsI key X L i x m) (hm : 0 < m) (hp : L[m - 1]? = some p) (hlt : key x < key p) : InsI key X ((L.set m p).set (m - 1) x) i x (m - 1) := by
  obtain ⟨q, rfl⟩ : ∃ q, m = q + 1 := ⟨m - 1, by omega⟩
  exact h.step hp hlt
theorem InsI.mem {key : Int → Int} {X L : List Int} {i m : Nat} {x p : Int} (h : InsI key X L i x m) (hm : 0 < m) (hp : L[m - 1]? = some p) : p ∈ X := by
  obtain ⟨P, Q, h1, _, h3, h4, _⟩ := h
  have hpp : p ∈ P := by
    rw [h3, List.getElem?_append_left (by omega)] at hp
    exact List.mem_of_getElem? hp
  have := h1.mem_iff.1 (List.mem_append_left Q hpp)
  exact List.mem_of_mem_take this
theorem flatI_set : ∀ (L : List Int) (i : Nat) (x : Int), (L.flatMap eI).set i (.int .i64 x) = (L.set i x).flatMap eI
  | [], i, x => by simp
  | y :: L, 0, x => by simp [eI]
  | y :: L, i + 1, x => by
    have := flatI_set L i x
    simp only [List.flatMap_cons, eI, List.singleton_append, List.set_cons_succ]
    rw [this]
theorem Ow.setI {w : World} {base e g n cap : Nat} {xs : List Int} (h : Ow eI 1 w base e (.slice (some ⟨g, 0, none⟩) n cap) n xs) (i : Nat) (x : Int) : Ow eI 1 (w.setCell ⟨g, i, none⟩ (.int .i64 x)) base e (.slice (some ⟨g, 0, none⟩) n cap) n (xs.set i x) := by
  have := (World.ownsRow.stored h i (.int .i64 x)).1
  rw [flatI_set] at this
  exact this
theorem Ow.drewn {w : World} {base e g n cap : Nat} {xs : List Int} (h : Ow eI 1 w base e (.slice (some ⟨g, 0, none⟩) n cap) n xs) : Ow eI 1 w.drew base e (.slice (some ⟨g, 0, none⟩) n cap) n xs := h.below (Below.refl _ _).drew
/-- what is asked of the comparison: a number below 0 just where one key is below the other -/
def CmpOk (key : Int → Int) (X : List Int) (gb B : Nat) (w : World) : Prop :=
  ∀ (i j : Int) (w' : World), i ∈ X → j ∈ X → Below B w w' → Calls Try.prog 80 #[.int .i64 i, .int .i64 j, .pointer (some ⟨gb, 0, none⟩)] w' fun e w'' => e = .returned (.int .i64 (if key i < key j then -1 else if key j < key i then 1 else 0)) ∧ Below w'.heap.size w' w''
set_option maxHeartbeats 4000000 in
theorem insSort_any (key : Int → Int) (X : List Int) (g n c B0 gb : Nat) (w : World) (hB0 : B0 ≤ w.heap.size) (h1 : 1 ≤ n) (hn : n ≤ 1000) (hX : X.Pairwise (· < ·)) (ho : Ow eI 1 w B0 2 (.slice (some ⟨g, 0, none⟩) n c) n X) (hc : CmpOk key X gb B0 w) :
    Calls Try.prog 84 #[.slice (some ⟨g, 0, none⟩) n c, .int .i64 0, .int .i64 n, .func (.func 80) #[] #[.pointer (some ⟨gb, 0, none⟩)]] w fun e w' => e = .returned (.tuple #[]) ∧ ∃ L, SrtOf key X L ∧ Ow eI 1 w' B0 2 (.slice (some ⟨g, 0, none⟩) n c) n L ∧ Below B0 w w' := by
  have hg0 : B0 ≤ g := by
    obtain ⟨g', he, h, _⟩ := ho.at_ (by omega)
    cases he; exact h
  have HL := Lib.hid (ho.len eI_len (by decide))
  have HO := Lib.hid ho
  have HC := Lib.hid hc
  have HX := Lib.hid hX
  clear ho hc hX
  go_enter Try.func84, Try.ntmps84
  go_wp2_with fail
  go_loopw [8] (fun i wr => ∃ (k : Nat) (L : List Int), 1 ≤ k ∧ k ≤ n ∧ i = .int .i64 k ∧ Hid (InsO key X L k) ∧ Hid (Ow eI 1 wr B0 2 (.slice (some ⟨g, 0, none⟩) n c) n L) ∧ Hid (Below B0 w wr)) (fun i _ => n - (intOf i).toNat)
  case atStart => exact ⟨1, X, Nat.le_refl _, h1, rfl, Lib.hid (InsO.first key X), HO, Lib.hid (Below.refl _ _)⟩
  case round =>
    obtain ⟨k, L, hk1, hk, rfl, HI, HOk, HBk⟩ := hrel
    by_cases hlt : k < n
    · obtain ⟨x, hx⟩ : ∃ z, X[k]? = some z := ⟨_, List.getElem?_eq_getElem (by rw [HL.out]; exact hlt)⟩
      have HXx := Lib.hid hx
      clear hx
      go_wp2_with fail
      go_loopw [9] (fun j wr => ∃ (m : Nat) (L : List Int), m ≤ k ∧ j = .int .i64 m ∧ Hid (InsI key X L k x m) ∧ Hid (Ow eI 1 wr B0 2 (.slice (some ⟨g, 0, none⟩) n c) n L) ∧ Hid (Below B0 w wr)) (fun j _ => (intOf j).toNat)
      case atStart => exact ⟨k, L, Nat.le_refl _, rfl, Lib.hid (HI.out.go HX.out HXx.out), HOk, HBk⟩
      case round =>
        obtain ⟨m, Lj, hm, rfl, HJ, HOj, HBj⟩ := hrel
        obtain ⟨wq, hwq⟩ : ∃ wx, wx = wr := ⟨_, rfl⟩
        subst hwq
        have ix : IntKind.i64.wrap ((k : Int) + 1) = (k : Int) + 1 := IntWalk.i64_in _ (by omega)
        by_cases h0 : 0 < m
        · obtain ⟨p, hp, hpx⟩ := HJ.out.prev h0
          have HXp := Lib.hid hp
          have hsz : B0 ≤ wq.heap.size := Nat.le_trans hB0 HBj.out.size
          have c0 : wq.cell? ⟨g, m, none⟩ = some (.int .i64 x) := HOj.out.cell1 eI_len (by omega) HJ.out.len rfl
          have c1 : wq.cell? ⟨g, m - 1, none⟩ = some (.int .i64 p) := HOj.out.cell1 eI_len (by omega) HXp.out rfl
          have d0 : decide (0 < (m : Int)) = true := by simp; omega
          have d1 : decide (0 < m) = true := by simp; omega
          have j0 : (0 : Int) ≤ (m : Nat) := by omega
          have j1 : ((m : Nat) : Int) < n := by omega
          have j2 : (0 : Int) ≤ (m : Int) - 1 := by omega
          have j3 : (m : Int) - 1 < (n : Int) := by omega
          have j4 : ((m : Int) - 1).toNat = m - 1 := by omega
          have j5 : (1 : Int) ≤ (m : Int) := by omega
          have j6 : 1 ≤ m := by omega
          have i1 : IntKind.i64.wrap ((m : Int) - 1) = (m : Int) - 1 := IntWalk.i64_in _ (by omega)
          have HS : Hid (∀ wz, Below wq.heap.size wq wz → wz.cell? ⟨g, m, none⟩ = some (.int .i64 x) ∧ wz.cell? ⟨g, m - 1, none⟩ = some (.int .i64 p)) := Lib.hid fun wz hz => ⟨(hz.cell (lt_of_cell c0)).trans c0, (hz.cell (lt_of_cell c1)).trans c1⟩
          have HD : Hid (Below wq.heap.size wq wq.drew) := Lib.hid (Below.refl _ _).drew
          have HCM := Lib.hid (HC.out x p wq.drew (List.mem_of_getElem? HXx.out) (HJ.out.mem h0 HXp.out) HBj.out.drew)
          clear hp c0 c1
          by_cases hkk : key x < key p
          · have HKK := Lib.hid hkk
            have HC2 := Lib.hid (HCM.out)
            rw [if_pos hkk] at HC2
            clear hkk HCM
            go_wp2_with fail
            go_region_held3 (fun wz : World => wz.cell? ⟨g, m, none⟩ = some (.int .i64 x) ∧ wz.cell? ⟨g, m - 1, none⟩ = some (.int .i64 p)) (first | (go_keep; done) | exact HS.out _ HD.out | exact HS.out _ HDz.out | fail) (first | (go_at_call 80; (with_reducible refine (HC2.out).mono ?_); rintro e w1 ⟨rfl, hb1⟩; have HDz : Hid (Below wq.heap.size wq w1) := Lib.hid (HD.out.trans (hb1.mono HD.out.size)); clear hb1))
            have HOz := Lib.hid (HOj.out.below HDz.out)
            have HBz := Lib.hid (HBj.out.trans (HDz.out.mono hsz))
            have c0 : w1.cell? ⟨g, m, none⟩ = some (.int .i64 x) := (HS.out _ HDz.out).1
            have c1 : w1.cell? ⟨g, m - 1, none⟩ = some (.int .i64 p) := (HS.out _ HDz.out).2
            have f0 : w1.frozen? ⟨g, m, none⟩ = false := World.ownsRow.frozenAt HOz.out m
            have f1 : w1.frozen? ⟨g, m - 1, none⟩ = false := World.ownsRow.frozenAt HOz.out (m - 1)
            clear HS
            go_upto_region 6 with (fail)
            go_big_region
            have HO6 := Lib.hid (Ow.drewn ((HOz.out.setI m p).setI (m - 1) x))
            have HB6 := Lib.hid ((HBz.out.setCell (p := ⟨g, m, none⟩) hg0 (.int .i64 p)).setCell (p := ⟨g, m - 1, none⟩) hg0 (.int .i64 x)).drew
            obtain ⟨w6, hw6⟩ : ∃ wx, ((w1.setCell ⟨g, m, none⟩ (.int .i64 p)).setCell ⟨g, m - 1, none⟩ (.int .i64 x)).drew = wx := ⟨_, rfl⟩
            rw [hw6] at HO6 HB6 ⊢
            have HJ2 := Lib.hid (HJ.out.step' h0 HXp.out HKK.out)
            clear hw6 c0 c1 f0 f1
            go_wp2_with fail
            go_roundw
            case rel => exact ⟨m - 1, _, by omega, by go_num, HJ2, HO6, HB6⟩
            case measure => simp [intOf]; omega
          · by_cases hk2 : key p < key x
            · have HKK := Lib.hid hkk
              have HC2 := Lib.hid (HCM.out)
              rw [if_neg hkk, if_pos hk2] at HC2
              clear hkk hk2 HCM
              go_wp2_with fail
              go_region_held3 (fun wz : World => wz.cell? ⟨g, m, none⟩ = some (.int .i64 x) ∧ wz.cell? ⟨g, m - 1, none⟩ = some (.int .i64 p)) (first | (go_keep; done) | exact HS.out _ HD.out | exact HS.out _ HDz.out | fail) (first | (go_at_call 80; (with_reducible refine (HC2.out).mono ?_); rintro e w1 ⟨rfl, hb1⟩; have HDz : Hid (Below wq.heap.size wq w1) := Lib.hid (HD.out.trans (hb1.mono HD.out.size)); clear hb1))
              have HOz := Lib.hid (HOj.out.below HDz.out)
              have HBz := Lib.hid (HBj.out.trans (HDz.out.mono hsz))
              have HIN : Hid (InsO key X Lj (k + 1)) := Lib.hid (HJ.out.stop HXx.out (.inr ⟨p, HXp.out, by have := HKK.out; omega⟩))
              clear HS
              go_wp2_with fail
              go_roundw
              case rel => exact ⟨k + 1, Lj, by omega, by omega, by go_num, HIN, HOz, HBz⟩
              case measure => simp [intOf]; omega
            · have HKK := Lib.hid hkk
              have HC2 := Lib.hid (HCM.out)
              rw [if_neg hkk, if_neg hk2] at HC2
              clear hkk hk2 HCM
              go_wp2_with fail
              go_region_held3 (fun wz : World => wz.cell? ⟨g, m, none⟩ = some (.int .i64 x) ∧ wz.cell? ⟨g, m - 1, none⟩ = some (.int .i64 p)) (first | (go_keep; done) | exact HS.out _ HD.out | exact HS.out _ HDz.out | fail) (first | (go_at_call 80; (with_reducible refine (HC2.out).mono ?_); rintro e w1 ⟨rfl, hb1⟩; have HDz : Hid (Below wq.heap.size wq w1) := Lib.hid (HD.out.trans (hb1.mono HD.out.size)); clear hb1))
              have HOz := Lib.hid (HOj.out.below HDz.out)
              have HBz := Lib.hid (HBj.out.trans (HDz.out.mono hsz))
              have HIN : Hid (InsO key X Lj (k + 1)) := Lib.hid (HJ.out.stop HXx.out (.inr ⟨p, HXp.out, by have := HKK.out; omega⟩))
              clear HS
              go_wp2_with fail
              go_roundw
              case rel => exact ⟨k + 1, Lj, by omega, by omega, by go_num, HIN, HOz, HBz⟩
              case measure => simp [intOf]; omega
        · have hm0 : m = 0 := by omega
          have d0 : decide (0 < (m : Int)) = false := by simp; omega
          have d1 : decide (0 < m) = false := by simp; omega
          have HIN : Hid (InsO key X Lj (k + 1)) := Lib.hid (HJ.out.stop HXx.out (.inl hm0))
          have hsz : B0 ≤ wq.heap.size := Nat.le_trans hB0 HBj.out.size
          clear hm0
          go_wp2_with fail
          go_quiet (fail)
          have HB4 : Hid (Below wq.heap.size wq (wq.drewN nq)) := Lib.hid (below_drewN (Below.refl _ _) nq)
          obtain ⟨w4, hw4⟩ : ∃ wz, wq.drewN nq = wz := ⟨_, rfl⟩
          rw [hw4] at HB4 ⊢
          have HO4 := Lib.hid (HOj.out.below HB4.out)
          have HBw := Lib.hid (HBj.out.trans (HB4.out.mono hsz))
          clear hw4
          go_wp2_with fail
          go_roundw
          case rel => exact ⟨k + 1, Lj, by omega, by omega, by go_num, HIN, HO4, HBw⟩
          case measure => simp [intOf]; omega
    · have HS := Lib.hid (HI.out.last (by rw [HL.out]; omega))
      go_wp2_with fail
      go_end0
      exact ⟨rfl, L, HS.out, HOk.out, HBk.out⟩
open Go.RowKit
set_option maxRecDepth 100000
set_option linter.unusedVariables false
set_option maxHeartbeats 1000000 in
theorem insSort_none (a : Option Addr) (c : Nat) (fv : Value) (w : World) : Calls Try.prog 84 #[.slice a 0 c, .int .i64 0, .int .i64 0, fv] w fun e w' => e = .returned (.tuple #[]) ∧ w = w' := by
  go_enter Try.func84, Try.ntmps84
  go_wp2_with fail
  go_loopw [8] (fun i wr => i = .int .i64 1 ∧ w = wr) (fun _ _ => 0)
  case atStart => exact ⟨rfl, rfl⟩
  case round =>
    obtain ⟨rfl, rfl⟩ := hrel
    go_wp2_with fail
    go_end0
    exact ⟨rfl, rfl⟩
set_option maxHeartbeats 1000000 in
theorem stable_none (a : Option Addr) (c : Nat) (fv : Value) (w : World) : Calls Try.prog 82 #[.slice a 0 c, .int .i64 0, fv] w fun e w' => e = .returned (.tuple #[]) ∧ w = w' := by
  go_enter Try.func82, Try.ntmps82
  go_wp2_with fail
  go_loopw [7, 8] (fun p q wr => p = .int .i64 0 ∧ q = .int .i64 20 ∧ w = wr) (fun _ _ _ => 0)
  case atStart => exact ⟨rfl, rfl, rfl⟩
  case round =>
    obtain ⟨rfl, rfl, rfl⟩ := hrel
    go_wp2_with fail
    refine (insSort_none a c fv w).mono ?_
    rintro e w1 ⟨rfl, rfl⟩
    go_wp2_with fail
    go_loopw [6] (fun p wr => p = .int .i64 20 ∧ w = wr) (fun _ _ => 0)
    case atStart => exact ⟨rfl, rfl⟩
    case round =>
      obtain ⟨rfl, rfl⟩ := hrel
      go_wp2_with fail
      go_end0
      exact ⟨rfl, rfl⟩
set_option maxHeartbeats 1000000 in
theorem stable_some (key : Int → Int) (X : List Int) (g n c B0 gb : Nat) (w : World) (hB0 : B0 ≤ w.heap.size) (h1 : 1 ≤ n) (hn : n ≤ 19) (hX : X.Pairwise (· < ·)) (ho : Ow eI 1 w B0 2 (.slice (some ⟨g, 0, none⟩) n c) n X) (hc : CmpOk key X gb B0 w) :
    Calls Try.prog 82 #[.slice (some ⟨g, 0, none⟩) n c, .int .i64 n, .func (.func 80) #[] #[.pointer (some ⟨gb, 0, none⟩)]] w fun e w' => e = .returned (.tuple #[]) ∧ ∃ L, SrtOf key X L ∧ Ow eI 1 w' B0 2 (.slice (some ⟨g, 0, none⟩) n c) n L ∧ Below B0 w w' := by
  have HI := Lib.hid (insSort_any key X g n c B0 gb w hB0 h1 (by omega) hX ho hc)
  have d0 : decide ((20 : Int) ≤ (n : Int)) = false := by simp; omega
  have d1 : decide (20 ≤ n) = false := by simp; omega
  have d2 : decide ((20 : Int) < (n : Int)) = false := by simp; omega
  have d3 : decide (20 < n) = false := by simp; omega
  clear ho hc hX
  go_enter Try.func82, Try.ntmps82
  go_wp2_with fail
  go_loopw [7, 8] (fun p q wr => p = .int .i64 0 ∧ q = .int .i64 20 ∧ w = wr) (fun _ _ _ => 0)
  case atStart => exact ⟨rfl, rfl, rfl⟩
  case round =>
    obtain ⟨rfl, rfl, rfl⟩ := hrel
    go_wp2_with fail
    refine (HI.out).mono ?_
    rintro e w1 ⟨rfl, L, hs, ho, hb⟩
    have HS := Lib.hid hs
    have HO := Lib.hid ho
    have HB := Lib.hid hb
    clear hs ho hb HI
    go_wp2_with fail
    go_loopw [6] (fun p wr => p = .int .i64 20 ∧ w1 = wr) (fun _ _ => 0)
    case atStart => exact ⟨rfl, rfl⟩
    case round =>
      obtain ⟨rfl, rfl⟩ := hrel
      go_wp2_with fail
      go_end0
      exact ⟨rfl, L, HS.out, HO.out, HB.out⟩
set_option maxHeartbeats 1000000 in
theorem SortStable_any (key : Int → Int) (X : List Int) (a : Option Addr) (n c B0 gb : Nat) (w : World) (hB0 : B0 ≤ w.heap.size) (hn : n ≤ 19) (hX : X.Pairwise (· < ·)) (ho : Ow eI 1 w B0 2 (.slice a n c) n X) (hc : CmpOk key X gb B0 w) :
    Calls Try.prog 79 #[.slice a n c, .func (.func 80) #[] #[.pointer (some ⟨gb, 0, none⟩)]] w fun e w' => e = .returned (.tuple #[]) ∧ ∃ L, SrtOf key X L ∧ Ow eI 1 w' B0 2 (.slice a n c) n L ∧ Below B0 w w' := by
  by_cases h0 : n = 0
  · subst h0
    have hx0 : X = [] := List.eq_nil_of_length_eq_zero (ho.len eI_len (by decide))
    subst hx0
    have HO := Lib.hid ho
    clear ho hc hX
    go_enter Try.func79, Try.ntmps79
    go_wp2_with fail
    refine (stable_none a c _ w).mono ?_
    rintro e w1 ⟨rfl, rfl⟩
    go_wp2_with fail
    go_end0
    exact ⟨rfl, [], ⟨List.Perm.refl _, List.Pairwise.nil⟩, HO.out, Below.refl _ _⟩
  · obtain ⟨g, rfl, _, _⟩ := ho.at_ (by omega)
    have HI := Lib.hid (stable_some key X g n c B0 gb w hB0 (by omega) hn hX ho hc)
    clear ho hc hX
    go_enter Try.func79, Try.ntmps79
    go_wp2_with fail
    refine (HI.out).mono ?_
    rintro e w1 ⟨rfl, L, hs, ho, hb⟩
    have HS := Lib.hid hs
    have HO := Lib.hid ho
    have HB := Lib.hid hb
    clear hs ho hb HI
    go_wp2_with fail
    go_end0
    exact ⟨rfl, L, HS.out, HO.out, HB.out⟩
/-- what is asked of the number -/
def NumOk (key : Int → Int) (n ge gc B : Nat) (w : World) : Prop :=
  ∀ (i : Nat) (w' : World), i < n → Below B w w' → Calls Try.prog 74 #[.int .i64 i, .pointer (some ⟨ge, 0, none⟩), .pointer (some ⟨gc, 0, none⟩)] w' fun e w'' => e = .returned (.int .i64 (key i)) ∧ Below w'.heap.size w' w''
def numV (ge gc : Nat) : Value := .func (.func 74) #[] #[.pointer (some ⟨ge, 0, none⟩), .pointer (some ⟨gc, 0, none⟩)]
set_option maxHeartbeats 2000000 in
theorem ordCmp_any (key : Int → Int) (X : List Int) (n gb ge gc B : Nat) (w : World) (hX : ∀ x ∈ X, 0 ≤ x ∧ x < (n : Int)) (hB : B ≤ w.heap.size) (hgb : gb < B) (hc : NumOk key n ge gc B w) (hx : CAt w gb #[.func (.func 74) #[] #[.pointer (some ⟨ge, 0, none⟩), .pointer (some ⟨gc, 0, none⟩)]] 51) : CmpOk key X gb B w := by
  intro i j w0 hi hj hb
  obtain ⟨p, rfl⟩ : ∃ p : Nat, i = p := ⟨i.toNat, by have := hX i hi; omega⟩
  obtain ⟨q, rfl⟩ : ∃ q : Nat, j = q := ⟨j.toNat, by have := hX j hj; omega⟩
  have hp : p < n := by have := hX _ hi; omega
  have hq : q < n := by have := hX _ hj; omega
  have hsz : B ≤ w0.heap.size := Nat.le_trans hB hb.size
  have HX0 := Lib.hid (hx.belowN hb hgb)
  have HD : Hid (Below w0.heap.size w0 w0.drew) := Lib.hid (Below.refl _ _).drew
  have HBD : Hid (Below B w w0.drew) := Lib.hid hb.drew
  have HC1 := Lib.hid (hc p w0.drew hp HBD.out)
  have HC2 : Hid (∀ wz, Below w0.heap.size w0 wz → Calls Try.prog 74 #[.int .i64 q, .pointer (some ⟨ge, 0, none⟩), .pointer (some ⟨gc, 0, none⟩)] wz fun e w'' => e = .returned (.int .i64 (key q)) ∧ Below wz.heap.size wz w'') := Lib.hid fun wz hz => hc q wz hq (hb.trans (hz.mono hsz))
  have c0 : w0.cell? ⟨gb, 0, none⟩ = some (.func (.func 74) #[] #[.pointer (some ⟨ge, 0, none⟩), .pointer (some ⟨gc, 0, none⟩)]) := HX0.out.cell 0
  have HS : Hid (∀ wz, Below w0.heap.size w0 wz → wz.cell? ⟨gb, 0, none⟩ = some (.func (.func 74) #[] #[.pointer (some ⟨ge, 0, none⟩), .pointer (some ⟨gc, 0, none⟩)])) := Lib.hid fun wz hz => (hz.cell (lt_of_cell c0)).trans c0
  obtain ⟨kp, hkp⟩ : ∃ z, key p = z := ⟨_, rfl⟩
  obtain ⟨kq, hkq⟩ : ∃ z, key q = z := ⟨_, rfl⟩
  rw [hkp] at HC1 ⊢
  rw [hkq] at HC2 ⊢
  clear hc hx hb hi hj hX hkp hkq c0 HX0 HBD
  by_cases h1 : kp < kq
  · rw [if_pos h1]
    have d0 : (kp != kq) = true := by rw [bne_iff_ne]; omega
    have d1 : decide (kp < kq) = true := decide_eq_true h1
    go_enter Try.func80, Try.ntmps80
    go_upto_region 1 with (fail)
    go_region_held3 (fun wz : World => wz.cell? ⟨gb, 0, none⟩ = some (.func (.func 74) #[] #[.pointer (some ⟨ge, 0, none⟩), .pointer (some ⟨gc, 0, none⟩)])) (first | (go_keep; done) | exact HS.out _ HD.out | exact HS.out _ HD1.out | exact HS.out _ HD2.out | fail) (first | (go_at_call 74; (with_reducible refine (HC1.out).mono ?_); rintro e w1 ⟨rfl, hb1⟩; have HD1 : Hid (Below w0.heap.size w0 w1) := Lib.hid (HD.out.trans (hb1.mono HD.out.size)); clear hb1) | (go_at_call 74; (with_reducible refine (HC2.out _ HD1.out).mono ?_); rintro e w2 ⟨rfl, hb2⟩; have HD2 : Hid (Below w0.heap.size w0 w2) := Lib.hid (HD1.out.trans (hb2.mono HD1.out.size)); clear hb2))
    go_wp2_with fail
    go_ret
    exact ⟨rfl, HD2.out⟩
  · rw [if_neg h1]
    by_cases h2 : kq < kp
    · rw [if_pos h2]
      have d0 : (kp != kq) = true := by rw [bne_iff_ne]; omega
      have d1 : decide (kp < kq) = false := decide_eq_false h1
      go_enter Try.func80, Try.ntmps80
      go_upto_region 1 with (fail)
      go_region_held3 (fun wz : World => wz.cell? ⟨gb, 0, none⟩ = some (.func (.func 74) #[] #[.pointer (some ⟨ge, 0, none⟩), .pointer (some ⟨gc, 0, none⟩)])) (first | (go_keep; done) | exact HS.out _ HD.out | exact HS.out _ HD1.out | exact HS.out _ HD2.out | fail) (first | (go_at_call 74; (with_reducible refine (HC1.out).mono ?_); rintro e w1 ⟨rfl, hb1⟩; have HD1 : Hid (Below w0.heap.size w0 w1) := Lib.hid (HD.out.trans (hb1.mono HD.out.size)); clear hb1) | (go_at_call 74; (with_reducible refine (HC2.out _ HD1.out).mono ?_); rintro e w2 ⟨rfl, hb2⟩; have HD2 : Hid (Below w0.heap.size w0 w2) := Lib.hid (HD1.out.trans (hb2.mono HD1.out.size)); clear hb2))
      go_wp2_with fail
      go_ret
      exact ⟨rfl, HD2.out⟩
    · rw [if_neg h2]
      have h3 : kp = kq := by omega
      have d0 : (kp != kq) = false := by rw [bne_eq_false_iff_eq]; exact h3
      subst h3
      go_enter Try.func80, Try.ntmps80
      go_upto_region 1 with (fail)
      go_region_held3 (fun wz : World => wz.cell? ⟨gb, 0, none⟩ = some (.func (.func 74) #[] #[.pointer (some ⟨ge, 0, none⟩), .pointer (some ⟨gc, 0, none⟩)])) (first | (go_keep; done) | exact HS.out _ HD.out | exact HS.out _ HD1.out | exact HS.out _ HD2.out | fail) (first | (go_at_call 74; (with_reducible refine (HC1.out).mono ?_); rintro e w1 ⟨rfl, hb1⟩; have HD1 : Hid (Below w0.heap.size w0 w1) := Lib.hid (HD.out.trans (hb1.mono HD.out.size)); clear hb1) | (go_at_call 74; (with_reducible refine (HC2.out _ HD1.out).mono ?_); rintro e w2 ⟨rfl, hb2⟩; have HD2 : Hid (Below w0.heap.size w0 w2) := Lib.hid (HD1.out.trans (hb2.mono HD1.out.size)); clear hb2))
      go_wp2_with fail
      go_ret
      exact ⟨rfl, HD2.out⟩
theorem whereT (n : Nat) : whereL n (fun _ => true) = (List.range n).map fun (i : Nat) => (i : Int) := by
  unfold whereL
  rw [List.filter_eq_self.2 fun _ _ => rfl]
theorem whereT_len (n : Nat) : (whereL n fun _ => true).length = n := by simp [whereT]
theorem whereT_mem (n : Nat) : ∀ x ∈ whereL n (fun _ => true), 0 ≤ x ∧ x < (n : Int) := fun x hx => by
  rw [whereT] at hx
  obtain ⟨i, hi, rfl⟩ := List.mem_map.1 hx
  have := List.mem_range.1 hi
  omega
theorem whereT_pw (n : Nat) : (whereL n fun _ => true).Pairwise (· < ·) := by
  rw [whereT, List.pairwise_map]
  exact List.pairwise_lt_range.imp fun h => by omega
end Go.Proofs.Ytcebjjkckfopiaa
