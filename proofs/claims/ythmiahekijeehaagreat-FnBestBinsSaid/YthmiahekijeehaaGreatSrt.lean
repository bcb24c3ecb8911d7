/-
  The stable sort of few numbers by a key: insertion.
-/
import Derived.Test.YthmiahekijeehaaGreatMore
import Derived.Test.YthmiahekijeehaaGreatWhere
import Derived.Test.YthmiahekijeehaaGreatBo
import Derived.Test.YthmiahekijeehaaGreatQTail
import Derived.Test.YthmiahekijeehaaGreatErr8
import Derived.Deep.RegionHeld3
import Derived.Deep.Cut
import Derived.BigQuiet
import Derived.BigRegion
namespace Go.Proofs.YthmiahekijeehaaGreat
open Go.RowKit
set_option maxRecDepth 100000
set_option linter.unusedVariables false
/-- ahead of, by numbers, equal ones by the indices -/
def slt (key : Int → Int) (x y : Int) : Prop := key x < key y ∨ (key x = key y ∧ x < y)
theorem slt_trans {key : Int → Int} {x y z : Int} (h : slt key x y) (h2 : slt key y z) : slt key x z := by
  unfold slt at *
  omega
/-- a list whose first i have been put in order -/
def InsO (key : Int → Int) (X L : List Int) (i : Nat) : Prop := ∃ M, L = M ++ X.drop i ∧ M.Perm (X.take i) ∧ M.Pairwise (slt key)
/-- an element on its way to its place: j -/
def InsI (key : Int → Int) (X L : List Int) (i : Nat) (x : Int) (j : Nat) : Prop := ∃ P Q, (P ++ Q).Perm (X.take i) ∧ (P ++ Q).Pairwise (slt key) ∧ L = P ++ x :: (Q ++ X.drop (i + 1)) ∧ P.length = j ∧ (∀ q ∈ Q, slt key x q) ∧ ∀ p ∈ P, p < x
/-- a list in order -/
def SrtOf (key : Int → Int) (X L : List Int) : Prop := L.Perm X ∧ L.Pairwise (slt key)
theorem InsO.first (key : Int → Int) (X : List Int) : InsO key X X 1 := by
  cases X with
  | nil => exact ⟨[], by simp, by simp, List.Pairwise.nil⟩
  | cons x r => exact ⟨[x], by simp, by simp, by simp⟩
theorem InsO.last {key : Int → Int} {X L : List Int} {i : Nat} (h : InsO key X L i) (hi : X.length ≤ i) : SrtOf key X L := by
  obtain ⟨M, h1, h2, h3⟩ := h
  rw [List.drop_eq_nil_of_le hi, List.append_nil] at h1
  rw [List.take_of_length_le hi] at h2
  subst h1
  exact ⟨h2, h3⟩
theorem InsO.go {key : Int → Int} {X L : List Int} {i : Nat} {x : Int} (h : InsO key X L i) (hX : X.Pairwise (· < ·)) (hx : X[i]? = some x) : InsI key X L i x i := by
  obtain ⟨M, h1, h2, h3⟩ := h
  have hi := (List.getElem?_eq_some_iff.1 hx).1
  refine ⟨M, [], by simpa using h2, by simpa using h3, ?_, ?_, by simp, ?_⟩
  · rw [h1, List.nil_append]
    congr 1
    rw [List.drop_eq_getElem_cons hi]
    congr 1
    exact (List.getElem?_eq_some_iff.1 hx).2
  · rw [h2.length_eq, List.length_take]; omega
  · intro p hp
    have hp2 := (h2.mem_iff).1 hp
    obtain ⟨k, hk, rfl⟩ := List.getElem_of_mem hp2
    rw [List.length_take] at hk
    rw [List.getElem_take]
    have hx2 := (List.getElem?_eq_some_iff.1 hx).2
    rw [← hx2]
    exact (List.pairwise_iff_getElem.1 hX) k i (by omega) hi (by omega)
theorem InsI.len {key : Int → Int} {X L : List Int} {i j : Nat} {x : Int} (h : InsI key X L i x j) : L[j]? = some x := by
  obtain ⟨P, Q, _, _, h3, h4, _⟩ := h
  subst h3 h4
  simp
theorem InsI.prev {key : Int → Int} {X L : List Int} {i j : Nat} {x : Int} (h : InsI key X L i x j) (hj : 0 < j) : ∃ p, L[j - 1]? = some p ∧ p < x := by
  obtain ⟨P, Q, _, _, h3, h4, _, h6⟩ := h
  have hp : P[j - 1]? = some (P[j - 1]'(by omega)) := List.getElem?_eq_getElem (by omega)
  refine ⟨P[j - 1]'(by omega), ?_, h6 _ (List.getElem_mem _)⟩
  rw [h3, List.getElem?_append_left (by omega)]
  exact hp
theorem snoc_of {P : List Int} {j : Nat} (h : P.length = j + 1) : ∃ R p, P = R ++ [p] ∧ R.length = j := by
  refine ⟨P.dropLast, P.getLast (by intro h0; rw [h0] at h; simp at h), ?_, by simp [h]⟩
  exact (List.dropLast_concat_getLast _).symm
theorem InsI.step {key : Int → Int} {X L : List Int} {i j : Nat} {x p : Int} (h : InsI key X L i x (j + 1)) (hp : L[j]? = some p) (hlt : key x < key p) : InsI key X ((L.set (j + 1) p).set j x) i x j := by
  obtain ⟨P, Q, h1, h2, h3, h4, h5, h6⟩ := h
  obtain ⟨R, p', rfl, hR⟩ := snoc_of h4
  have hpp : p' = p := by
    rw [h3, List.append_assoc, List.getElem?_append_right (by omega), show j - R.length = 0 by omega] at hp
    simpa using hp
  subst hpp
  refine ⟨R, p' :: Q, by simpa using h1, by simpa using h2, ?_, hR, ?_, fun q hq => h6 q (by simp [hq])⟩
  · subst h3 hR
    simp
  · intro q hq
    rcases List.mem_cons.1 hq with rfl | hq
    · exact .inl hlt
    · exact h5 q hq
theorem InsI.stop {key : Int → Int} {X L : List Int} {i j : Nat} {x : Int} (h : InsI key X L i x j) (hx : X[i]? = some x) (hs : j = 0 ∨ ∃ p, L[j - 1]? = some p ∧ ¬ key x < key p) : InsO key X L (i + 1) := by
  obtain ⟨P, Q, h1, h2, h3, h4, h5, h6⟩ := h
  have hP : ∀ p ∈ P, slt key p x := by
    rcases hs with h0 | ⟨p, hp, hle⟩
    · have : P = [] := List.eq_nil_of_length_eq_zero (by omega)
      intro p hp; rw [this] at hp; cases hp
    · by_cases hj : j = 0
      · have : P = [] := List.eq_nil_of_length_eq_zero (by omega)
        intro p hp; rw [this] at hp; cases hp
      · obtain ⟨R, p', rfl, hR⟩ := snoc_of (P := P) (j := j - 1) (by omega)
        have hpp : p' = p := by
          rw [h3, List.append_assoc, List.getElem?_append_right (by omega), show j - 1 - R.length = 0 by omega] at hp
          simpa using hp
        subst hpp
        have hl : slt key p' x := by
          have := h6 p' (by simp)
          unfold slt; omega
        intro q hq
        rcases List.mem_append.1 hq with hq | hq
        · have h7 := (List.pairwise_append.1 (List.pairwise_append.1 h2).1).2.2 q hq p' (by simp)
          exact slt_trans h7 hl
        · have : q = p' := by simpa using hq
          rw [this]; exact hl
  have hi := (List.getElem?_eq_some_iff.1 hx).1
  refine ⟨P ++ x :: Q, by rw [h3]; simp, ?_, ?_⟩
  · rw [List.take_add_one, hx, Option.toList_some]
    have e : (P ++ x :: Q).Perm (P ++ Q ++ [x]) := by
      rw [List.append_assoc]
      exact (List.perm_append_left_iff P).2 (List.perm_append_comm (l₁ := [x]) (l₂ := Q))
    exact e.trans (h1.append_right [x])
  · have h7 := List.pairwise_append.1 h2
    rw [List.pairwise_append]
    refine ⟨h7.1, List.pairwise_cons.2 ⟨h5, h7.2.1⟩, ?_⟩
    intro p hp q hq
    rcases List.mem_cons.1 hq with rfl | hq
    · exact hP p hp
    · exact h7.2.2 p hp q hq
open Go.RowKit
set_option maxRecDepth 100000
set_option linter.unusedVariables false
theorem InsI.step' {key : Int → Int} {X L : List Int} {i m : Nat} {x p : Int} (h : InsI key X L i x m) (hm : 0 < m) (hp : L[m - 1]? = some p) (hlt : key x < key p) : InsI key X ((L.set m p).set (m - 1) x) i x (m - 1) := by
  obtain ⟨q, rfl⟩ : ∃ q, m = q + 1 := ⟨m - 1, by omega⟩
  exact h.step hp hlt
theorem InsI.mem {key : Int → Int} {X L : List Int} {i m : Nat} {x p : Int} (h : InsI key X L i x m) (hm : 0 < m) (hp : L[m - 1]? = some p) : p ∈ X := by
  obtain ⟨P, Q, h1, _, h3, h4, _⟩ := h
  have hpp : p ∈ P := by
    rw [h3, List.getElem?_append_left (by omega)] at hp
    exact List.mem_of_getElem? hp
  have := h1.mem_iff.1 (List.mem_append_left Q hpp)
  exact List.mem_of_mem_take this
theorem flatI_set : ∀ (L : List Int) (i : Nat) (x : Int), (L.flatMap eI).set i (.int .i64 x) = (L.set i x).flatMap eI
  | [], i, x => by simp
  | y :: L, 0, x => by simp [eI]
  | y :: L, i + 1, x => by
    have := flatI_set L i x
    simp only [List.flatMap_cons, eI, List.singleton_append, List.set_cons_succ]
    rw [this]
theorem Ow.setI {w : World} {base e g n cap : Nat} {xs : List Int} (h : Ow eI 1 w base e (.slice (some ⟨g, 0, none⟩) n cap) n xs) (i : Nat) (x : Int) : Ow eI 1 (w.setCell ⟨g, i, none⟩ (.int .i64 x)) base e (.slice (some ⟨g, 0, none⟩) n cap) n (xs.set i x) := by
  have := (World.ownsRow.stored h i (.int .i64 x)).1
  rw [flatI_set] at this
  exact this
theorem Ow.drewn {w : World} {base e g n cap : Nat} {xs : List Int} (h : Ow eI 1 w base e (.slice (some ⟨g, 0, none⟩) n cap) n xs) : Ow eI 1 w.drew base e (.slice (some ⟨g, 0, none⟩) n cap) n xs := h.below (Below.refl _ _).drew
/-- what is asked of the comparison: a number below 0 just where one key is below the other -/
def CmpOk (key : Int → Int) (X : List Int) (gb B : Nat) (w : World) : Prop :=
  ∀ (i j : Int) (w' : World), i ∈ X → j ∈ X → Below B w w' → Calls Tryz.prog 95 #[.int .i64 i, .int .i64 j, .pointer (some ⟨gb, 0, none⟩)] w' fun e w'' => e = .returned (.int .i64 (if key i < key j then -1 else if key j < key i then 1 else 0)) ∧ Below w'.heap.size w' w''
set_option maxHeartbeats 4000000 in
theorem insSort_any (key : Int → Int) (X : List Int) (g n c B0 gb : Nat) (w : World) (hB0 : B0 ≤ w.heap.size) (h1 : 1 ≤ n) (hn : n ≤ 1000) (hX : X.Pairwise (· < ·)) (ho : Ow eI 1 w B0 2 (.slice (some ⟨g, 0, none⟩) n c) n X) (hc : CmpOk key X gb B0 w) :
    Calls Tryz.prog 100 #[.slice (some ⟨g, 0, none⟩) n c, .int .i64 0, .int .i64 n, .func (.func 95) #[] #[.pointer (some ⟨gb, 0, none⟩)]] w fun e w' => e = .returned (.tuple #[]) ∧ ∃ L, SrtOf key X L ∧ Ow eI 1 w' B0 2 (.slice (some ⟨g, 0, none⟩) n c) n L ∧ Below B0 w w' := by
  have hg0 : B0 ≤ g := by
    obtain ⟨g', he, h, _⟩ := ho.at_ (by omega)
    cases he; exact h
  have HL := Lib.hid (ho.len eI_len (by decide))
  have HO := Lib.hid ho
  have HC := Lib.hid hc
  have HX := Lib.hid hX
  clear ho hc hX
  go_enter Tryz.func100, Tryz.ntmps100
  go_wp2_with fail
  go_loopw [8] (fun i wr => ∃ (k : Nat) (L : List Int), 1 ≤ k ∧ k ≤ n ∧ i = .int .i64 k ∧ Hid (InsO key X L k) ∧ Hid (Ow eI 1 wr B0 2 (.slice (some ⟨g, 0, none⟩) n c) n L) ∧ Hid (Below B0 w wr)) (fun i _ => n - (intOf i).toNat)
  case atStart => exact ⟨1, X, Nat.le_refl _, h1, rfl, Lib.hid (InsO.first key X), HO, Lib.hid (Below.refl _ _)⟩
  case round =>
    obtain ⟨k, L, hk1, hk, rfl, HI, HOk, HBk⟩ := hrel
    by_cases hlt : k < n
    · obtain ⟨x, hx⟩ : ∃ z, X[k]? = some z := ⟨_, List.getElem?_eq_getElem (by rw [HL.out]; exact hlt)⟩
      have HXx := Lib.hid hx
      clear hx
      go_wp2_with fail
      go_loopw [9] (fun j wr => ∃ (m : Nat) (L : List Int), m ≤ k ∧ j = .int .i64 m ∧ Hid (InsI key X L k x m) ∧ Hid (Ow eI 1 wr B0 2 (.slice (some ⟨g, 0, none⟩) n c) n L) ∧ Hid (Below B0 w wr)) (fun j _ => (intOf j).toNat)
      case atStart => exact ⟨k, L, Nat.le_refl _, rfl, Lib.hid (HI.out.go HX.out HXx.out), HOk, HBk⟩
      case round =>
        obtain ⟨m, Lj, hm, rfl, HJ, HOj, HBj⟩ := hrel
        obtain ⟨wq, hwq⟩ : ∃ wx, wx = wr := ⟨_, rfl⟩
        subst hwq
        have ix : IntKind.i64.wrap ((k : Int) + 1) = (k : Int) + 1 := IntWalk.i64_in _ (by omega)
        by_cases h0 : 0 < m
        · obtain ⟨p, hp, hpx⟩ := HJ.out.prev h0
          have HXp := Lib.hid hp
          have hsz : B0 ≤ wq.heap.size := Nat.le_trans hB0 HBj.out.size
          have c0 : wq.cell? ⟨g, m, none⟩ = some (.int .i64 x) := HOj.out.cell1 eI_len (by omega) HJ.out.len rfl
          have c1 : wq.cell? ⟨g, m - 1, none⟩ = some (.int .i64 p) := HOj.out.cell1 eI_len (by omega) HXp.out rfl
          have d0 : decide (0 < (m : Int)) = true := by simp; omega
          have d1 : decide (0 < m) = true := by simp; omega
          have j0 : (0 : Int) ≤ (m : Nat) := by omega
          have j1 : ((m : Nat) : Int) < n := by omega
          have j2 : (0 : Int) ≤ (m : Int) - 1 := by omega
          have j3 : (m : Int) - 1 < (n : Int) := by omega
          have j4 : ((m : Int) - 1).toNat = m - 1 := by omega
          have j5 : (1 : Int) ≤ (m : Int) := by omega
          have j6 : 1 ≤ m := by omega
          have i1 : IntKind.i64.wrap ((m : Int) - 1) = (m : Int) - 1 := IntWalk.i64_in _ (by omega)
          have HS : Hid (∀ wz, Below wq.heap.size wq wz → wz.cell? ⟨g, m, none⟩ = some (.int .i64 x) ∧ wz.cell? ⟨g, m - 1, none⟩ = some (.int .i64 p)) := Lib.hid fun wz hz => ⟨(hz.cell (lt_of_cell c0)).trans c0, (hz.cell (lt_of_cell c1)).trans c1⟩
          have HD : Hid (Below wq.heap.size wq wq.drew) := Lib.hid (Below.refl _ _).drew
          have HCM := Lib.hid (HC.out x p wq.drew (List.mem_of_getElem? HXx.out) (HJ.out.mem h0 HXp.out) HBj.out.drew)
          clear hp c0 c1
          by_cases hkk : key x < key p
          · have HKK := Lib.hid hkk
            have HC2 := Lib.hid (HCM.out)
            rw [if_pos hkk] at HC2
            clear hkk HCM
            go_wp2_with fail
            go_region_held3 (fun wz : World => wz.cell? ⟨g, m, none⟩ = some (.int .i64 x) ∧ wz.cell? ⟨g, m - 1, none⟩ = some (.int .i64 p)) (first | (go_keep; done) | exact HS.out _ HD.out | exact HS.out _ HDz.out | fail) (first | (go_at_call 95; (with_reducible refine (HC2.out).mono ?_); rintro e w1 ⟨rfl, hb1⟩; have HDz : Hid (Below wq.heap.size wq w1) := Lib.hid (HD.out.trans (hb1.mono HD.out.size)); clear hb1))
            have HOz := Lib.hid (HOj.out.below HDz.out)
            have HBz := Lib.hid (HBj.out.trans (HDz.out.mono hsz))
            have c0 : w1.cell? ⟨g, m, none⟩ = some (.int .i64 x) := (HS.out _ HDz.out).1
            have c1 : w1.cell? ⟨g, m - 1, none⟩ = some (.int .i64 p) := (HS.out _ HDz.out).2
            have f0 : w1.frozen? ⟨g, m, none⟩ = false := World.ownsRow.frozenAt HOz.out m
            have f1 : w1.frozen? ⟨g, m - 1, none⟩ = false := World.ownsRow.frozenAt HOz.out (m - 1)
            clear HS
            go_upto_region 6 with (fail)
            go_big_region
            have HO6 := Lib.hid (Ow.drewn ((HOz.out.setI m p).setI (m - 1) x))
            have HB6 := Lib.hid ((HBz.out.setCell (p := ⟨g, m, none⟩) hg0 (.int .i64 p)).setCell (p := ⟨g, m - 1, none⟩) hg0 (.int .i64 x)).drew
            obtain ⟨w6, hw6⟩ : ∃ wx, ((w1.setCell ⟨g, m, none⟩ (.int .i64 p)).setCell ⟨g, m - 1, none⟩ (.int .i64 x)).drew = wx := ⟨_, rfl⟩
            rw [hw6] at HO6 HB6 ⊢
            have HJ2 := Lib.hid (HJ.out.step' h0 HXp.out HKK.out)
            clear hw6 c0 c1 f0 f1
            go_wp2_with fail
            go_roundw
            case rel => exact ⟨m - 1, _, by omega, by go_num, HJ2, HO6, HB6⟩
            case measure => simp [intOf]; omega
          · by_cases hk2 : key p < key x
            · have HKK := Lib.hid hkk
              have HC2 := Lib.hid (HCM.out)
              rw [if_neg hkk, if_pos hk2] at HC2
              clear hkk hk2 HCM
              go_wp2_with fail
              go_region_held3 (fun wz : World => wz.cell? ⟨g, m, none⟩ = some (.int .i64 x) ∧ wz.cell? ⟨g, m - 1, none⟩ = some (.int .i64 p)) (first | (go_keep; done) | exact HS.out _ HD.out | exact HS.out _ HDz.out | fail) (first | (go_at_call 95; (with_reducible refine (HC2.out).mono ?_); rintro e w1 ⟨rfl, hb1⟩; have HDz : Hid (Below wq.heap.size wq w1) := Lib.hid (HD.out.trans (hb1.mono HD.out.size)); clear hb1))
              have HOz := Lib.hid (HOj.out.below HDz.out)
              have HBz := Lib.hid (HBj.out.trans (HDz.out.mono hsz))
              have HIN : Hid (InsO key X Lj (k + 1)) := Lib.hid (HJ.out.stop HXx.out (.inr ⟨p, HXp.out, by have := HKK.out; omega⟩))
              clear HS
              go_wp2_with fail
              go_roundw
              case rel => exact ⟨k + 1, Lj, by omega, by omega, by go_num, HIN, HOz, HBz⟩
              case measure => simp [intOf]; omega
            · have HKK := Lib.hid hkk
              have HC2 := Lib.hid (HCM.out)
              rw [if_neg hkk, if_neg hk2] at HC2
              clear hkk hk2 HCM
              go_wp2_with fail
              go_region_held3 (fun wz : World => wz.cell? ⟨g, m, none⟩ = some (.int .i64 x) ∧ wz.cell? ⟨g, m - 1, none⟩ = some (.int .i64 p)) (first | (go_keep; done) | exact HS.out _ HD.out | exact HS.out _ HDz.out | fail) (first | (go_at_call 95; (with_reducible refine (HC2.out).mono ?_); rintro e w1 ⟨rfl, hb1⟩; have HDz : Hid (Below wq.heap.size wq w1) := Lib.hid (HD.out.trans (hb1.mono HD.out.size)); clear hb1))
              have HOz := Lib.hid (HOj.out.below HDz.out)
              have HBz := Lib.hid (HBj.out.trans (HDz.out.mono hsz))
              have HIN : Hid (InsO key X Lj (k + 1)) := Lib.hid (HJ.out.stop HXx.out (.inr ⟨p, HXp.out, by have := HKK.out; omega⟩))
              clear HS
              go_wp2_with fail
              go_roundw
              case rel => exact ⟨k + 1, Lj, by omega, by omega, by go_num, HIN, HOz, HBz⟩
              case measure => simp [intOf]; omega
        · have hm0 : m = 0 := by omega
          have d0 : decide (0 < (m : Int)) = false := by simp; omega
          have d1 : decide (0 < m) = false := by simp; omega
          have HIN : Hid (InsO key X Lj (k + 1)) := Lib.hid (HJ.out.stop HXx.out (.inl hm0))
          have hsz : B0 ≤ wq.heap.size := Nat.le_trans hB0 HBj.out.size
          clear hm0
          go_wp2_with fail
          go_quiet (fail)
          have HB4 : Hid (Below wq.heap.size wq (wq.drewN nq)) := Lib.hid (below_drewN (Below.refl _ _) nq)
          obtain ⟨w4, hw4⟩ : ∃ wz, wq.drewN nq = wz := ⟨_, rfl⟩
          rw [hw4] at HB4 ⊢
          have HO4 := Lib.hid (HOj.out.below HB4.out)
          have HBw := Lib.hid (HBj.out.trans (HB4.out.mono hsz))
          clear hw4
          go_wp2_with fail
          go_roundw
          case rel => exact ⟨k + 1, Lj, by omega, by omega, by go_num, HIN, HO4, HBw⟩
          case measure => simp [intOf]; omega
    · have HS := Lib.hid (HI.out.last (by rw [HL.out]; omega))
      go_wp2_with fail
      go_end0
      exact ⟨rfl, L, HS.out, HOk.out, HBk.out⟩
end Go.Proofs.YthmiahekijeehaaGreat
