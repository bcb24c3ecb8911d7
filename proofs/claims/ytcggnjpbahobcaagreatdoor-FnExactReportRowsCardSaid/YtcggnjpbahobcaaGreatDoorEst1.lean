/-
  One estimate: when it is valid; which of two comes first.
-/
import Derived.Test.YtcggnjpbahobcaaGreatDoorBasic
import Derived.Test.YtcggnjpbahobcaaGreatDoorMore
import Derived.StillTailTactics
namespace Go.Proofs.YtcggnjpbahobcaaGreatDoor
open Go.RowKit
set_option maxRecDepth 100000

def estB (e : Est) : Bool := inB e.time 0 10000000 && (nameB e.star && (nameB e.obs && inB e.mag (-2000) 20000))
def befE (a b : Est) : Bool := if (a.time == b.time) = true then (if (a.star.toList == b.star.toList) = true then Op.bytesLess a.obs.toList b.obs.toList else Op.bytesLess a.star.toList b.star.toList) else decide (a.time < b.time)
theorem l06Time_lit (n : Int) (r : Bool) (w : World) (h : inB n 0 10000000 = r) : Calls Tryz.prog 41 #[.int .i64 n] w fun e w' => e = .returned (.bool r) ∧ w = w' := by
  go_enter Tryz.func41, Tryz.ntmps41
  go_wp2_with fail
  refine (l00In_lit n _ _ r _ h).mono ?_
  rintro e w' ⟨rfl, rfl⟩
  go_wp2_with fail
  go_ret
  exact ⟨rfl, rfl⟩
theorem l02Mag_lit (n : Int) (r : Bool) (w : World) (h : inB n (-2000) 20000 = r) : Calls Tryz.prog 43 #[.int .i64 n] w fun e w' => e = .returned (.bool r) ∧ w = w' := by
  go_enter Tryz.func43, Tryz.ntmps43
  go_wp2_with fail
  refine (l00In_lit n _ _ r _ h).mono ?_
  rintro e w' ⟨rfl, rfl⟩
  go_wp2_with fail
  go_ret
  exact ⟨rfl, rfl⟩
theorem ValidMag_lit (n : Int) (r : Bool) (w : World) (h : inB n (-2000) 20000 = r) : Calls Tryz.prog 53 #[.int .i64 n] w fun e w' => e = .returned (.bool r) ∧ w = w' := by
  go_enter Tryz.func53, Tryz.ntmps53
  go_wp2_with fail
  refine (in_lit n _ _ r _ h).mono ?_
  rintro e w' ⟨rfl, rfl⟩
  go_wp2_with fail
  go_ret
  exact ⟨rfl, rfl⟩

set_option maxHeartbeats 2000000 in
theorem l06One_any (e : Est) (b o : Nat) (w : World) (hs : e.star.size ≤ 9223372036854775807) (ho : e.obs.size ≤ 9223372036854775807)
  (c0 : w.cell? ⟨b, o, none⟩ = some (.int .i64 e.time)) (c1 : w.cell? ⟨b, o + 1, none⟩ = some (.string e.star)) (c2 : w.cell? ⟨b, o + 2, none⟩ = some (.string e.obs)) (c3 : w.cell? ⟨b, o + 3, none⟩ = some (.int .i64 e.mag)) :
    Calls Tryz.prog 25 #[.pointer (some ⟨b, o, none⟩)] w fun r w' => r = .returned (.bool (estB e)) ∧ w = w' := by
  cases h1 : inB e.time 0 10000000 with
  | false =>
    have hv : estB e = false := by simp only [estB, h1]; rfl
    rw [hv]
    have H1 := Lib.hid h1
    clear hv h1
    go_enter Tryz.func25, Tryz.ntmps25
    go_wp2_with fail
    refine (l06Time_lit _ _ _ H1.out).mono ?_
    rintro r w' ⟨rfl, rfl⟩
    go_wp2_with fail
    go_ret
    exact ⟨rfl, rfl⟩
  | true =>
    cases h2 : nameB e.star with
    | false =>
      have hv : estB e = false := by simp only [estB, h1, h2]; rfl
      rw [hv]
      have H1 := Lib.hid h1
      have H2 := Lib.hid h2
      clear hv h1 h2
      go_enter Tryz.func25, Tryz.ntmps25
      go_wp2_with fail
      refine (l06Time_lit _ _ _ H1.out).mono ?_
      rintro r w' ⟨rfl, rfl⟩
      go_wp2_with fail
      refine (specIsName_lit _ _ _ hs H2.out).mono ?_
      rintro r w' ⟨rfl, rfl⟩
      go_wp2_with fail
      go_ret
      exact ⟨rfl, rfl⟩
    | true =>
      cases h3 : nameB e.obs with
      | false =>
        have hv : estB e = false := by simp only [estB, h1, h2, h3]; rfl
        rw [hv]
        have H1 := Lib.hid h1
        have H2 := Lib.hid h2
        have H3 := Lib.hid h3
        clear hv h1 h2 h3
        go_enter Tryz.func25, Tryz.ntmps25
        go_wp2_with fail
        refine (l06Time_lit _ _ _ H1.out).mono ?_
        rintro r w' ⟨rfl, rfl⟩
        go_wp2_with fail
        refine (specIsName_lit _ _ _ hs H2.out).mono ?_
        rintro r w' ⟨rfl, rfl⟩
        go_wp2_with fail
        refine (specIsName_lit _ _ _ ho H3.out).mono ?_
        rintro r w' ⟨rfl, rfl⟩
        go_wp2_with fail
        go_ret
        exact ⟨rfl, rfl⟩
      | true =>
        cases h4 : inB e.mag (-2000) 20000 with
        | false =>
          have hv : estB e = false := by simp only [estB, h1, h2, h3, h4]; rfl
          rw [hv]
          have H1 := Lib.hid h1
          have H2 := Lib.hid h2
          have H3 := Lib.hid h3
          have H4 := Lib.hid h4
          clear hv h1 h2 h3 h4
          go_enter Tryz.func25, Tryz.ntmps25
          go_wp2_with fail
          refine (l06Time_lit _ _ _ H1.out).mono ?_
          rintro r w' ⟨rfl, rfl⟩
          go_wp2_with fail
          refine (specIsName_lit _ _ _ hs H2.out).mono ?_
          rintro r w' ⟨rfl, rfl⟩
          go_wp2_with fail
          refine (specIsName_lit _ _ _ ho H3.out).mono ?_
          rintro r w' ⟨rfl, rfl⟩
          go_wp2_with fail
          refine (l02Mag_lit _ _ _ H4.out).mono ?_
          rintro r w' ⟨rfl, rfl⟩
          go_wp2_with fail
          go_ret
          exact ⟨rfl, rfl⟩
        | true =>
          have hv : estB e = true := by simp only [estB, h1, h2, h3, h4]; rfl
          rw [hv]
          have H1 := Lib.hid h1
          have H2 := Lib.hid h2
          have H3 := Lib.hid h3
          have H4 := Lib.hid h4
          clear hv h1 h2 h3 h4
          go_enter Tryz.func25, Tryz.ntmps25
          go_wp2_with fail
          refine (l06Time_lit _ _ _ H1.out).mono ?_
          rintro r w' ⟨rfl, rfl⟩
          go_wp2_with fail
          refine (specIsName_lit _ _ _ hs H2.out).mono ?_
          rintro r w' ⟨rfl, rfl⟩
          go_wp2_with fail
          refine (specIsName_lit _ _ _ ho H3.out).mono ?_
          rintro r w' ⟨rfl, rfl⟩
          go_wp2_with fail
          refine (l02Mag_lit _ _ _ H4.out).mono ?_
          rintro r w' ⟨rfl, rfl⟩
          go_wp2_with fail
          go_ret
          exact ⟨rfl, rfl⟩

theorem estNew (w : World) (e : Est) : let w0 := w.alloc (.cells #[.int .i64 e.time, .string e.star, .string e.obs, .int .i64 e.mag, .bool e.fnt] 42)
    w0.cell? ⟨w.heap.size, 0, none⟩ = some (.int .i64 e.time) ∧ w0.cell? ⟨w.heap.size, 1, none⟩ = some (.string e.star) ∧ w0.cell? ⟨w.heap.size, 2, none⟩ = some (.string e.obs) ∧ w0.cell? ⟨w.heap.size, 3, none⟩ = some (.int .i64 e.mag) ∧ w0.cell? ⟨w.heap.size, 4, none⟩ = some (.bool e.fnt) ∧ Below w.heap.size w w0 := by
  have h := fun j => cell_of_row (w.alloc (.cells #[.int .i64 e.time, .string e.star, .string e.obs, .int .i64 e.mag, .bool e.fnt] 42)) w.heap.size j _ 42 (0, 0) (heap_alloc_new w _)
  exact ⟨(h 0).trans rfl, (h 1).trans rfl, (h 2).trans rfl, (h 3).trans rfl, (h 4).trans rfl, (Below.refl _ _).alloc (Nat.le_refl _) _⟩
set_option maxHeartbeats 2000000 in
theorem isEstimate_any (e : Est) (w : World) (hs : e.star.size ≤ 9223372036854775807) (ho : e.obs.size ≤ 9223372036854775807) :
    Calls Tryz.prog 45 #[.agg #[.int .i64 e.time, .string e.star, .string e.obs, .int .i64 e.mag, .bool e.fnt]] w fun r w' => r = .returned (.bool (estB e)) ∧ Below w.heap.size w w' := by
  obtain ⟨c0, c1, c2, c3, _, hb⟩ := estNew w e
  have HB := Lib.hid hb
  clear hb
  cases h1 : inB e.time 0 10000000 with
  | false =>
    have hv : estB e = false := by simp only [estB, h1]; rfl
    rw [hv]
    have H1 := Lib.hid h1
    clear hv h1
    go_enter Tryz.func45, Tryz.ntmps45
    go_wp2_with fail
    refine (ValidTime_lit _ _ _ H1.out).mono ?_
    rintro r w' ⟨rfl, rfl⟩
    go_wp2_with fail
    go_ret
    exact ⟨rfl, HB.out⟩
  | true =>
    cases h2 : nameB e.star with
    | false =>
      have hv : estB e = false := by simp only [estB, h1, h2]; rfl
      rw [hv]
      have H1 := Lib.hid h1
      have H2 := Lib.hid h2
      clear hv h1 h2
      go_enter Tryz.func45, Tryz.ntmps45
      go_wp2_with fail
      refine (ValidTime_lit _ _ _ H1.out).mono ?_
      rintro r w' ⟨rfl, rfl⟩
      go_wp2_with fail
      refine (implIsName_lit _ _ _ hs H2.out).mono ?_
      rintro r w' ⟨rfl, rfl⟩
      go_wp2_with fail
      go_ret
      exact ⟨rfl, HB.out⟩
    | true =>
      cases h3 : nameB e.obs with
      | false =>
        have hv : estB e = false := by simp only [estB, h1, h2, h3]; rfl
        rw [hv]
        have H1 := Lib.hid h1
        have H2 := Lib.hid h2
        have H3 := Lib.hid h3
        clear hv h1 h2 h3
        go_enter Tryz.func45, Tryz.ntmps45
        go_wp2_with fail
        refine (ValidTime_lit _ _ _ H1.out).mono ?_
        rintro r w' ⟨rfl, rfl⟩
        go_wp2_with fail
        refine (implIsName_lit _ _ _ hs H2.out).mono ?_
        rintro r w' ⟨rfl, rfl⟩
        go_wp2_with fail
        refine (implIsName_lit _ _ _ ho H3.out).mono ?_
        rintro r w' ⟨rfl, rfl⟩
        go_wp2_with fail
        go_ret
        exact ⟨rfl, HB.out⟩
      | true =>
        cases h4 : inB e.mag (-2000) 20000 with
        | false =>
          have hv : estB e = false := by simp only [estB, h1, h2, h3, h4]; rfl
          rw [hv]
          have H1 := Lib.hid h1
          have H2 := Lib.hid h2
          have H3 := Lib.hid h3
          have H4 := Lib.hid h4
          clear hv h1 h2 h3 h4
          go_enter Tryz.func45, Tryz.ntmps45
          go_wp2_with fail
          refine (ValidTime_lit _ _ _ H1.out).mono ?_
          rintro r w' ⟨rfl, rfl⟩
          go_wp2_with fail
          refine (implIsName_lit _ _ _ hs H2.out).mono ?_
          rintro r w' ⟨rfl, rfl⟩
          go_wp2_with fail
          refine (implIsName_lit _ _ _ ho H3.out).mono ?_
          rintro r w' ⟨rfl, rfl⟩
          go_wp2_with fail
          refine (ValidMag_lit _ _ _ H4.out).mono ?_
          rintro r w' ⟨rfl, rfl⟩
          go_wp2_with fail
          go_ret
          exact ⟨rfl, HB.out⟩
        | true =>
          have hv : estB e = true := by simp only [estB, h1, h2, h3, h4]; rfl
          rw [hv]
          have H1 := Lib.hid h1
          have H2 := Lib.hid h2
          have H3 := Lib.hid h3
          have H4 := Lib.hid h4
          clear hv h1 h2 h3 h4
          go_enter Tryz.func45, Tryz.ntmps45
          go_wp2_with fail
          refine (ValidTime_lit _ _ _ H1.out).mono ?_
          rintro r w' ⟨rfl, rfl⟩
          go_wp2_with fail
          refine (implIsName_lit _ _ _ hs H2.out).mono ?_
          rintro r w' ⟨rfl, rfl⟩
          go_wp2_with fail
          refine (implIsName_lit _ _ _ ho H3.out).mono ?_
          rintro r w' ⟨rfl, rfl⟩
          go_wp2_with fail
          refine (ValidMag_lit _ _ _ H4.out).mono ?_
          rintro r w' ⟨rfl, rfl⟩
          go_wp2_with fail
          go_ret
          exact ⟨rfl, HB.out⟩

section
variable (x y : Est) (b o b' o' : Nat) (w : World)
  (c0 : w.cell? ⟨b, o, none⟩ = some (.int .i64 x.time)) (c1 : w.cell? ⟨b, o + 1, none⟩ = some (.string x.star)) (c2 : w.cell? ⟨b, o + 2, none⟩ = some (.string x.obs))
  (e0 : w.cell? ⟨b', o', none⟩ = some (.int .i64 y.time)) (e1 : w.cell? ⟨b', o' + 1, none⟩ = some (.string y.star)) (e2 : w.cell? ⟨b', o' + 2, none⟩ = some (.string y.obs))
include c0 c1 c2 e0 e1 e2
set_option maxHeartbeats 2000000 in
theorem l06Before_any : Calls Tryz.prog 26 #[.pointer (some ⟨b, o, none⟩), .pointer (some ⟨b', o', none⟩)] w fun r w' => r = .returned (.bool (befE x y)) ∧ ∃ m, w' = w.drewN m := by
  cases ht : (x.time == y.time) with
  | false =>
    have hv : befE x y = decide (x.time < y.time) := by simp only [befE, ht]; rfl
    have d1 : (x.time != y.time) = true := by simp only [bne, ht]; rfl
    rw [hv]
    clear hv ht
    go_enter Tryz.func26, Tryz.ntmps26
    go_wp2_with fail
    go_quiet (fail)
    go_wp2_with fail
    go_quiet (fail)
    go_wp2_with fail
    go_ret
    exact ⟨rfl, by repeat (first | exact ⟨_, rfl⟩ | (simp only [World.drewN_drewN]; exact ⟨_, rfl⟩))⟩
  | true =>
  have d1 : (x.time != y.time) = false := by simp only [bne, ht]; rfl
  cases hs : (x.star.toList == y.star.toList) with
  | false =>
    have hv : befE x y = Op.bytesLess x.star.toList y.star.toList := by simp only [befE, ht, hs]; rfl
    rw [hv]
    clear hv ht
    go_enter Tryz.func26, Tryz.ntmps26
    go_wp2_with fail
    go_quiet (fail)
    go_wp2_with fail
    go_quiet (fail)
    go_wp2_with fail
    go_quiet (fail)
    go_wp2_with fail
    go_ret
    exact ⟨rfl, by repeat (first | exact ⟨_, rfl⟩ | (simp only [World.drewN_drewN]; exact ⟨_, rfl⟩))⟩
  | true =>
    have hv : befE x y = Op.bytesLess x.obs.toList y.obs.toList := by simp only [befE, ht, hs]; rfl
    rw [hv]
    clear hv ht
    go_enter Tryz.func26, Tryz.ntmps26
    go_wp2_with fail
    go_quiet (fail)
    go_wp2_with fail
    go_quiet (fail)
    go_wp2_with fail
    go_quiet (fail)
    go_wp2_with fail
    go_ret
    exact ⟨rfl, by repeat (first | exact ⟨_, rfl⟩ | (simp only [World.drewN_drewN]; exact ⟨_, rfl⟩))⟩
end
end Go.Proofs.YtcggnjpbahobcaaGreatDoor
