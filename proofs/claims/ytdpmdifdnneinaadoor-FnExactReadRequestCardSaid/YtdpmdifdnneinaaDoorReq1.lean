/-
  One request: when it is valid, when it is open.
-/
import Derived.Test.YtdpmdifdnneinaaDoorBasic
import Derived.Test.YtdpmdifdnneinaaDoorMore
namespace Go.Proofs.YtdpmdifdnneinaaDoor
open Go.RowKit
set_option maxRecDepth 100000

theorem quiet_same {P : Program} {f : FuncId} {args : Array Value} {w : World} {n : Nat} {v : Value}
    (h : Calls P f args (w.drewN n) fun e w' => e = .returned v ∧ w.drewN n = w') : Calls P f args (w.drewN n) fun e w'' => e = .returned v ∧ ∃ m, w'' = w.drewN m :=
  h.mono fun _ _ ⟨he, hm⟩ => ⟨he, n, hm.symm⟩
theorem quiet_drew {P : Program} {f : FuncId} {args : Array Value} {w : World} {n : Nat} {v : Value}
    (h : Calls P f args (w.drewN n) fun e w' => e = .returned v ∧ ∃ m, w' = (w.drewN n).drewN m) : Calls P f args (w.drewN n) fun e w'' => e = .returned v ∧ ∃ m, w'' = w.drewN m := Calls.quiet_of h

def reqB (v : Req) : Bool := nameB v.star && (inB v.frm 0 10000000 && (inB v.til v.frm 10000000 && (inB v.want 1 100 && (inB v.done 0 v.want && inB v.prio 1 5))))
theorem reqNew (w : World) (v : Req) : let w0 := w.alloc (.cells #[.string v.star, .int .i64 v.frm, .int .i64 v.til, .int .i64 v.want, .int .i64 v.done, .int .i64 v.prio] 23)
    w0.cell? ⟨w.heap.size, 0, none⟩ = some (.string v.star) ∧ w0.cell? ⟨w.heap.size, 1, none⟩ = some (.int .i64 v.frm) ∧ w0.cell? ⟨w.heap.size, 2, none⟩ = some (.int .i64 v.til) ∧ w0.cell? ⟨w.heap.size, 3, none⟩ = some (.int .i64 v.want) ∧ w0.cell? ⟨w.heap.size, 4, none⟩ = some (.int .i64 v.done) ∧ w0.cell? ⟨w.heap.size, 5, none⟩ = some (.int .i64 v.prio) ∧ Below w.heap.size w w0 := by
  have h := fun j => cell_of_row (w.alloc (.cells #[.string v.star, .int .i64 v.frm, .int .i64 v.til, .int .i64 v.want, .int .i64 v.done, .int .i64 v.prio] 23)) w.heap.size j _ 23 (0, 0) (heap_alloc_new w _)
  exact ⟨(h 0).trans rfl, (h 1).trans rfl, (h 2).trans rfl, (h 3).trans rfl, (h 4).trans rfl, (h 5).trans rfl, (Below.refl _ _).alloc (Nat.le_refl _) _⟩

section
variable (v : Req) (b o : Nat) (w : World) (hs : v.star.size ≤ 9223372036854775807)
  (c0 : w.cell? ⟨b, o, none⟩ = some (.string v.star)) (c1 : w.cell? ⟨b, o + 1, none⟩ = some (.int .i64 v.frm)) (c2 : w.cell? ⟨b, o + 2, none⟩ = some (.int .i64 v.til)) (c3 : w.cell? ⟨b, o + 3, none⟩ = some (.int .i64 v.want)) (c4 : w.cell? ⟨b, o + 4, none⟩ = some (.int .i64 v.done)) (c5 : w.cell? ⟨b, o + 5, none⟩ = some (.int .i64 v.prio))
include hs c0 c1 c2 c3 c4 c5
set_option maxHeartbeats 4000000 in
theorem l22One_any : Calls Tryd.prog 10 #[.pointer (some ⟨b, o, none⟩)] w fun e w' => e = .returned (.bool (reqB v)) ∧ ∃ m, w' = w.drewN m := by
  cases h1 : nameB v.star with
  | false =>
    have hv : reqB v = false := by simp only [reqB, h1]; rfl
    rw [hv]
    clear hv
    go_enter Tryd.func10, Tryd.ntmps10
    go_wp2_with fail
    go_quiet ((first | (go_at_call 18; exact quiet_same (specIsName_lit _ _ _ hs (by assumption))) | (go_at_call 19; exact quiet_same (l03Time_lit _ _ _ (by assumption))) | (go_at_call 20; exact quiet_same (l00In_lit _ _ _ _ _ (by assumption)))))
    go_wp2_with fail
    go_ret
    exact ⟨rfl, _, rfl⟩
  | true =>
    cases h2 : inB v.frm 0 10000000 with
    | false =>
      have hv : reqB v = false := by simp only [reqB, h1, h2]; rfl
      rw [hv]
      clear hv
      go_enter Tryd.func10, Tryd.ntmps10
      go_wp2_with fail
      go_quiet ((first | (go_at_call 18; exact quiet_same (specIsName_lit _ _ _ hs (by assumption))) | (go_at_call 19; exact quiet_same (l03Time_lit _ _ _ (by assumption))) | (go_at_call 20; exact quiet_same (l00In_lit _ _ _ _ _ (by assumption)))))
      go_wp2_with fail
      go_ret
      exact ⟨rfl, _, rfl⟩
    | true =>
      cases h3 : inB v.til v.frm 10000000 with
      | false =>
        have hv : reqB v = false := by simp only [reqB, h1, h2, h3]; rfl
        rw [hv]
        clear hv
        go_enter Tryd.func10, Tryd.ntmps10
        go_wp2_with fail
        go_quiet ((first | (go_at_call 18; exact quiet_same (specIsName_lit _ _ _ hs (by assumption))) | (go_at_call 19; exact quiet_same (l03Time_lit _ _ _ (by assumption))) | (go_at_call 20; exact quiet_same (l00In_lit _ _ _ _ _ (by assumption)))))
        go_wp2_with fail
        go_ret
        exact ⟨rfl, _, rfl⟩
      | true =>
        cases h4 : inB v.want 1 100 with
        | false =>
          have hv : reqB v = false := by simp only [reqB, h1, h2, h3, h4]; rfl
          rw [hv]
          clear hv
          go_enter Tryd.func10, Tryd.ntmps10
          go_wp2_with fail
          go_quiet ((first | (go_at_call 18; exact quiet_same (specIsName_lit _ _ _ hs (by assumption))) | (go_at_call 19; exact quiet_same (l03Time_lit _ _ _ (by assumption))) | (go_at_call 20; exact quiet_same (l00In_lit _ _ _ _ _ (by assumption)))))
          go_wp2_with fail
          go_ret
          exact ⟨rfl, _, rfl⟩
        | true =>
          cases h5 : inB v.done 0 v.want with
          | false =>
            have hv : reqB v = false := by simp only [reqB, h1, h2, h3, h4, h5]; rfl
            rw [hv]
            clear hv
            go_enter Tryd.func10, Tryd.ntmps10
            go_wp2_with fail
            go_quiet ((first | (go_at_call 18; exact quiet_same (specIsName_lit _ _ _ hs (by assumption))) | (go_at_call 19; exact quiet_same (l03Time_lit _ _ _ (by assumption))) | (go_at_call 20; exact quiet_same (l00In_lit _ _ _ _ _ (by assumption)))))
            go_wp2_with fail
            go_ret
            exact ⟨rfl, _, rfl⟩
          | true =>
            cases h6 : inB v.prio 1 5 with
            | false =>
              have hv : reqB v = false := by simp only [reqB, h1, h2, h3, h4, h5, h6]; rfl
              rw [hv]
              clear hv
              go_enter Tryd.func10, Tryd.ntmps10
              go_wp2_with fail
              go_quiet ((first | (go_at_call 18; exact quiet_same (specIsName_lit _ _ _ hs (by assumption))) | (go_at_call 19; exact quiet_same (l03Time_lit _ _ _ (by assumption))) | (go_at_call 20; exact quiet_same (l00In_lit _ _ _ _ _ (by assumption)))))
              go_wp2_with fail
              go_ret
              exact ⟨rfl, _, rfl⟩
            | true =>
              have hv : reqB v = true := by simp only [reqB, h1, h2, h3, h4, h5, h6]; rfl
              rw [hv]
              clear hv
              go_enter Tryd.func10, Tryd.ntmps10
              go_wp2_with fail
              go_quiet ((first | (go_at_call 18; exact quiet_same (specIsName_lit _ _ _ hs (by assumption))) | (go_at_call 19; exact quiet_same (l03Time_lit _ _ _ (by assumption))) | (go_at_call 20; exact quiet_same (l00In_lit _ _ _ _ _ (by assumption)))))
              go_wp2_with fail
              go_ret
              exact ⟨rfl, _, rfl⟩
end

set_option maxHeartbeats 4000000 in
theorem isRequest_any (v : Req) (w : World) (hs : v.star.size ≤ 9223372036854775807) : Calls Tryd.prog 26 #[.agg #[.string v.star, .int .i64 v.frm, .int .i64 v.til, .int .i64 v.want, .int .i64 v.done, .int .i64 v.prio]] w fun e w' => e = .returned (.bool (reqB v)) ∧ Below w.heap.size w w' := by
  cases hn : nameB v.star with
  | false =>
    cases h1 : inB v.frm 0 10000000 with
    | false =>
      have hv : reqB v = false := by simp only [reqB, hn, h1]; rfl
      rw [hv]
      clear hv
      go_enter Tryd.func26, Tryd.ntmps26
      go_wp2_with fail
      refine (ValidTime_any v.frm _).mono ?_
      rintro e w' ⟨rfl, rfl⟩
      rw [h1]
      go_wp2_with fail
      refine (implIsName_any v.star _ hs).mono ?_
      rintro e w' ⟨rfl, rfl⟩
      rw [hn]
      go_wp2_with fail
      go_ret
      exact ⟨rfl, by repeat (first | exact Below.refl _ _ | refine Below.alloc ?_ (by simp <;> omega) _)⟩
    | true =>
      have j1 := inB_iff.1 h1
      cases h2 : inB v.til 0 10000000 with
      | false =>
        have h3 : inB v.til v.frm 10000000 = false := by
          cases hx : inB v.til v.frm 10000000 with
          | false => rfl
          | true =>
            have j3 := inB_iff.1 hx
            rw [inB_true (by omega) (by omega)] at h2; cases h2
        have hv : reqB v = false := by simp only [reqB, hn, h1, h3]; rfl
        rw [hv]
        clear hv
        go_enter Tryd.func26, Tryd.ntmps26
        go_wp2_with fail
        refine (ValidTime_any v.frm _).mono ?_
        rintro e w' ⟨rfl, rfl⟩
        rw [h1]
        go_wp2_with fail
        refine (ValidTime_any v.til _).mono ?_
        rintro e w' ⟨rfl, rfl⟩
        rw [h2]
        go_wp2_with fail
        refine (implIsName_any v.star _ hs).mono ?_
        rintro e w' ⟨rfl, rfl⟩
        rw [hn]
        go_wp2_with fail
        go_ret
        exact ⟨rfl, by repeat (first | exact Below.refl _ _ | refine Below.alloc ?_ (by simp <;> omega) _)⟩
      | true =>
        have j2 := inB_iff.1 h2
        by_cases hle : v.frm ≤ v.til
        case neg =>
          have h3 : inB v.til v.frm 10000000 = false := inB_false1 hle
          have hle' : v.til < v.frm := by omega
          have hle2 : decide (v.frm ≤ v.til) = false := by simp; omega
          have hv : reqB v = false := by simp only [reqB, hn, h1, h3]; rfl
          rw [hv]
          clear hv
          go_enter Tryd.func26, Tryd.ntmps26
          go_wp2_with fail
          refine (ValidTime_any v.frm _).mono ?_
          rintro e w' ⟨rfl, rfl⟩
          rw [h1]
          go_wp2_with fail
          refine (ValidTime_any v.til _).mono ?_
          rintro e w' ⟨rfl, rfl⟩
          rw [h2]
          go_wp2_with fail
          refine (implIsName_any v.star _ hs).mono ?_
          rintro e w' ⟨rfl, rfl⟩
          rw [hn]
          go_wp2_with fail
          go_ret
          exact ⟨rfl, by repeat (first | exact Below.refl _ _ | refine Below.alloc ?_ (by simp <;> omega) _)⟩
        have h3 : inB v.til v.frm 10000000 = true := inB_true hle j2.2
        have hv : reqB v = false := by simp only [reqB, hn]; rfl
        rw [hv]
        clear hv
        go_enter Tryd.func26, Tryd.ntmps26
        go_wp2_with fail
        refine (ValidTime_any v.frm _).mono ?_
        rintro e w' ⟨rfl, rfl⟩
        rw [h1]
        go_wp2_with fail
        refine (ValidTime_any v.til _).mono ?_
        rintro e w' ⟨rfl, rfl⟩
        rw [h2]
        go_wp2_with fail
        refine (implIsName_any v.star _ hs).mono ?_
        rintro e w' ⟨rfl, rfl⟩
        rw [hn]
        go_wp2_with fail
        go_ret
        exact ⟨rfl, by repeat (first | exact Below.refl _ _ | refine Below.alloc ?_ (by simp <;> omega) _)⟩
  | true =>
    cases h1 : inB v.frm 0 10000000 with
    | false =>
      have hv : reqB v = false := by simp only [reqB, hn, h1]; rfl
      rw [hv]
      clear hv
      go_enter Tryd.func26, Tryd.ntmps26
      go_wp2_with fail
      refine (ValidTime_any v.frm _).mono ?_
      rintro e w' ⟨rfl, rfl⟩
      rw [h1]
      go_wp2_with fail
      refine (implIsName_any v.star _ hs).mono ?_
      rintro e w' ⟨rfl, rfl⟩
      rw [hn]
      go_wp2_with fail
      go_ret
      exact ⟨rfl, by repeat (first | exact Below.refl _ _ | refine Below.alloc ?_ (by simp <;> omega) _)⟩
    | true =>
      have j1 := inB_iff.1 h1
      cases h2 : inB v.til 0 10000000 with
      | false =>
        have h3 : inB v.til v.frm 10000000 = false := by
          cases hx : inB v.til v.frm 10000000 with
          | false => rfl
          | true =>
            have j3 := inB_iff.1 hx
            rw [inB_true (by omega) (by omega)] at h2; cases h2
        have hv : reqB v = false := by simp only [reqB, hn, h1, h3]; rfl
        rw [hv]
        clear hv
        go_enter Tryd.func26, Tryd.ntmps26
        go_wp2_with fail
        refine (ValidTime_any v.frm _).mono ?_
        rintro e w' ⟨rfl, rfl⟩
        rw [h1]
        go_wp2_with fail
        refine (ValidTime_any v.til _).mono ?_
        rintro e w' ⟨rfl, rfl⟩
        rw [h2]
        go_wp2_with fail
        refine (implIsName_any v.star _ hs).mono ?_
        rintro e w' ⟨rfl, rfl⟩
        rw [hn]
        go_wp2_with fail
        go_ret
        exact ⟨rfl, by repeat (first | exact Below.refl _ _ | refine Below.alloc ?_ (by simp <;> omega) _)⟩
      | true =>
        have j2 := inB_iff.1 h2
        by_cases hle : v.frm ≤ v.til
        case neg =>
          have h3 : inB v.til v.frm 10000000 = false := inB_false1 hle
          have hle' : v.til < v.frm := by omega
          have hle2 : decide (v.frm ≤ v.til) = false := by simp; omega
          have hv : reqB v = false := by simp only [reqB, hn, h1, h3]; rfl
          rw [hv]
          clear hv
          go_enter Tryd.func26, Tryd.ntmps26
          go_wp2_with fail
          refine (ValidTime_any v.frm _).mono ?_
          rintro e w' ⟨rfl, rfl⟩
          rw [h1]
          go_wp2_with fail
          refine (ValidTime_any v.til _).mono ?_
          rintro e w' ⟨rfl, rfl⟩
          rw [h2]
          go_wp2_with fail
          refine (implIsName_any v.star _ hs).mono ?_
          rintro e w' ⟨rfl, rfl⟩
          rw [hn]
          go_wp2_with fail
          go_ret
          exact ⟨rfl, by repeat (first | exact Below.refl _ _ | refine Below.alloc ?_ (by simp <;> omega) _)⟩
        have h3 : inB v.til v.frm 10000000 = true := inB_true hle j2.2
        cases hc : inB v.want 1 100 with
        | false =>
          have hv : reqB v = false := by simp only [reqB, hn, h1, h3, hc]; rfl
          rw [hv]
          clear hv
          go_enter Tryd.func26, Tryd.ntmps26
          go_wp2_with fail
          refine (ValidTime_any v.frm _).mono ?_
          rintro e w' ⟨rfl, rfl⟩
          rw [h1]
          go_wp2_with fail
          refine (ValidTime_any v.til _).mono ?_
          rintro e w' ⟨rfl, rfl⟩
          rw [h2]
          go_wp2_with fail
          refine (implIsName_any v.star _ hs).mono ?_
          rintro e w' ⟨rfl, rfl⟩
          rw [hn]
          go_wp2_with fail
          refine (in_any v.want 1 100 _).mono ?_
          rintro e w' ⟨rfl, rfl⟩
          rw [hc]
          go_wp2_with fail
          go_ret
          exact ⟨rfl, by repeat (first | exact Below.refl _ _ | refine Below.alloc ?_ (by simp <;> omega) _)⟩
        | true =>
          cases hd : inB v.done 0 v.want with
          | false =>
            have hv : reqB v = false := by simp only [reqB, hn, h1, h3, hc, hd]; rfl
            rw [hv]
            clear hv
            go_enter Tryd.func26, Tryd.ntmps26
            go_wp2_with fail
            refine (ValidTime_any v.frm _).mono ?_
            rintro e w' ⟨rfl, rfl⟩
            rw [h1]
            go_wp2_with fail
            refine (ValidTime_any v.til _).mono ?_
            rintro e w' ⟨rfl, rfl⟩
            rw [h2]
            go_wp2_with fail
            refine (implIsName_any v.star _ hs).mono ?_
            rintro e w' ⟨rfl, rfl⟩
            rw [hn]
            go_wp2_with fail
            refine (in_any v.want 1 100 _).mono ?_
            rintro e w' ⟨rfl, rfl⟩
            rw [hc]
            go_wp2_with fail
            refine (in_any v.done 0 v.want _).mono ?_
            rintro e w' ⟨rfl, rfl⟩
            rw [hd]
            go_wp2_with fail
            go_ret
            exact ⟨rfl, by repeat (first | exact Below.refl _ _ | refine Below.alloc ?_ (by simp <;> omega) _)⟩
          | true =>
            cases hp : inB v.prio 1 5 with
            | false =>
              have hv : reqB v = false := by simp only [reqB, hn, h1, h3, hc, hd, hp]; rfl
              rw [hv]
              clear hv
              go_enter Tryd.func26, Tryd.ntmps26
              go_wp2_with fail
              refine (ValidTime_any v.frm _).mono ?_
              rintro e w' ⟨rfl, rfl⟩
              rw [h1]
              go_wp2_with fail
              refine (ValidTime_any v.til _).mono ?_
              rintro e w' ⟨rfl, rfl⟩
              rw [h2]
              go_wp2_with fail
              refine (implIsName_any v.star _ hs).mono ?_
              rintro e w' ⟨rfl, rfl⟩
              rw [hn]
              go_wp2_with fail
              refine (in_any v.want 1 100 _).mono ?_
              rintro e w' ⟨rfl, rfl⟩
              rw [hc]
              go_wp2_with fail
              refine (in_any v.done 0 v.want _).mono ?_
              rintro e w' ⟨rfl, rfl⟩
              rw [hd]
              go_wp2_with fail
              refine (in_any v.prio 1 5 _).mono ?_
              rintro e w' ⟨rfl, rfl⟩
              rw [hp]
              go_wp2_with fail
              go_ret
              exact ⟨rfl, by repeat (first | exact Below.refl _ _ | refine Below.alloc ?_ (by simp <;> omega) _)⟩
            | true =>
              have hv : reqB v = true := by simp only [reqB, hn, h1, h3, hc, hd, hp]; rfl
              rw [hv]
              clear hv
              go_enter Tryd.func26, Tryd.ntmps26
              go_wp2_with fail
              refine (ValidTime_any v.frm _).mono ?_
              rintro e w' ⟨rfl, rfl⟩
              rw [h1]
              go_wp2_with fail
              refine (ValidTime_any v.til _).mono ?_
              rintro e w' ⟨rfl, rfl⟩
              rw [h2]
              go_wp2_with fail
              refine (implIsName_any v.star _ hs).mono ?_
              rintro e w' ⟨rfl, rfl⟩
              rw [hn]
              go_wp2_with fail
              refine (in_any v.want 1 100 _).mono ?_
              rintro e w' ⟨rfl, rfl⟩
              rw [hc]
              go_wp2_with fail
              refine (in_any v.done 0 v.want _).mono ?_
              rintro e w' ⟨rfl, rfl⟩
              rw [hd]
              go_wp2_with fail
              refine (in_any v.prio 1 5 _).mono ?_
              rintro e w' ⟨rfl, rfl⟩
              rw [hp]
              go_wp2_with fail
              go_ret
              exact ⟨rfl, by repeat (first | exact Below.refl _ _ | refine Below.alloc ?_ (by simp <;> omega) _)⟩
end Go.Proofs.YtdpmdifdnneinaaDoor
