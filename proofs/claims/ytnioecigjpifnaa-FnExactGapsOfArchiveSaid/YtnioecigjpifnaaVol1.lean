/-
  Volumes: when one is valid, and when a list is.
-/
import Derived.Test.YtnioecigjpifnaaBasic
import Derived.Test.YtnioecigjpifnaaHarnVol
namespace Go.Proofs.Ytnioecigjpifnaa
open Go.RowKit
set_option maxRecDepth 100000

theorem quiet_same {P : Program} {f : FuncId} {args : Array Value} {w : World} {n : Nat} {v : Value}
    (h : Calls P f args (w.drewN n) fun e w' => e = .returned v ∧ w.drewN n = w') : Calls P f args (w.drewN n) fun e w'' => e = .returned v ∧ ∃ m, w'' = w.drewN m :=
  h.mono fun _ _ ⟨he, hm⟩ => ⟨he, n, hm.symm⟩
theorem quiet_drew {P : Program} {f : FuncId} {args : Array Value} {w : World} {n : Nat} {v : Value}
    (h : Calls P f args (w.drewN n) fun e w' => e = .returned v ∧ ∃ m, w' = (w.drewN n).drewN m) : Calls P f args (w.drewN n) fun e w'' => e = .returned v ∧ ∃ m, w'' = w.drewN m := Calls.quiet_of h

def volB (v : Vol) : Bool := nameB v.name && (inB v.frm 0 10000000 && (inB v.til v.frm 10000000 && (inB v.cnt 1 1000000 && inB v.cop 0 5)))

section
variable (v : Vol) (b o : Nat) (w : World) (hs : v.name.size ≤ 9223372036854775807)
  (c0 : w.cell? ⟨b, o, none⟩ = some (.string v.name)) (c1 : w.cell? ⟨b, o + 1, none⟩ = some (.int .i64 v.frm)) (c2 : w.cell? ⟨b, o + 2, none⟩ = some (.int .i64 v.til)) (c3 : w.cell? ⟨b, o + 3, none⟩ = some (.int .i64 v.cnt)) (c4 : w.cell? ⟨b, o + 4, none⟩ = some (.int .i64 v.cop))
include hs c0 c1 c2 c3 c4
set_option maxHeartbeats 4000000 in
theorem l23One_any : Calls Try.prog 67 #[.pointer (some ⟨b, o, none⟩)] w fun e w' => e = .returned (.bool (volB v)) ∧ ∃ m, w' = w.drewN m := by
  cases h1 : nameB v.name with
  | false =>
    have hv : volB v = false := by simp only [volB, h1]; rfl
    rw [hv]
    clear hv
    go_enter Try.func67, Try.ntmps67
    go_wp2_with fail
    go_quiet ((first | (go_at_call 77; exact quiet_same (specIsName_lit _ _ _ hs (by assumption))) | (go_at_call 50; exact quiet_same (l03Time_lit _ _ _ (by assumption))) | (go_at_call 51; exact quiet_same (l00In_lit _ _ _ _ _ (by assumption)))))
    go_wp2_with fail
    go_ret
    exact ⟨rfl, _, rfl⟩
  | true =>
    cases h2 : inB v.frm 0 10000000 with
    | false =>
      have hv : volB v = false := by simp only [volB, h1, h2]; rfl
      rw [hv]
      clear hv
      go_enter Try.func67, Try.ntmps67
      go_wp2_with fail
      go_quiet ((first | (go_at_call 77; exact quiet_same (specIsName_lit _ _ _ hs (by assumption))) | (go_at_call 50; exact quiet_same (l03Time_lit _ _ _ (by assumption))) | (go_at_call 51; exact quiet_same (l00In_lit _ _ _ _ _ (by assumption)))))
      go_wp2_with fail
      go_ret
      exact ⟨rfl, _, rfl⟩
    | true =>
      cases h3 : inB v.til v.frm 10000000 with
      | false =>
        have hv : volB v = false := by simp only [volB, h1, h2, h3]; rfl
        rw [hv]
        clear hv
        go_enter Try.func67, Try.ntmps67
        go_wp2_with fail
        go_quiet ((first | (go_at_call 77; exact quiet_same (specIsName_lit _ _ _ hs (by assumption))) | (go_at_call 50; exact quiet_same (l03Time_lit _ _ _ (by assumption))) | (go_at_call 51; exact quiet_same (l00In_lit _ _ _ _ _ (by assumption)))))
        go_wp2_with fail
        go_ret
        exact ⟨rfl, _, rfl⟩
      | true =>
        cases h4 : inB v.cnt 1 1000000 with
        | false =>
          have hv : volB v = false := by simp only [volB, h1, h2, h3, h4]; rfl
          rw [hv]
          clear hv
          go_enter Try.func67, Try.ntmps67
          go_wp2_with fail
          go_quiet ((first | (go_at_call 77; exact quiet_same (specIsName_lit _ _ _ hs (by assumption))) | (go_at_call 50; exact quiet_same (l03Time_lit _ _ _ (by assumption))) | (go_at_call 51; exact quiet_same (l00In_lit _ _ _ _ _ (by assumption)))))
          go_wp2_with fail
          go_ret
          exact ⟨rfl, _, rfl⟩
        | true =>
          cases h5 : inB v.cop 0 5 with
          | false =>
            have hv : volB v = false := by simp only [volB, h1, h2, h3, h4, h5]; rfl
            rw [hv]
            clear hv
            go_enter Try.func67, Try.ntmps67
            go_wp2_with fail
            go_quiet ((first | (go_at_call 77; exact quiet_same (specIsName_lit _ _ _ hs (by assumption))) | (go_at_call 50; exact quiet_same (l03Time_lit _ _ _ (by assumption))) | (go_at_call 51; exact quiet_same (l00In_lit _ _ _ _ _ (by assumption)))))
            go_wp2_with fail
            go_ret
            exact ⟨rfl, _, rfl⟩
          | true =>
            have hv : volB v = true := by simp only [volB, h1, h2, h3, h4, h5]; rfl
            rw [hv]
            clear hv
            go_enter Try.func67, Try.ntmps67
            go_wp2_with fail
            go_quiet ((first | (go_at_call 77; exact quiet_same (specIsName_lit _ _ _ hs (by assumption))) | (go_at_call 50; exact quiet_same (l03Time_lit _ _ _ (by assumption))) | (go_at_call 51; exact quiet_same (l00In_lit _ _ _ _ _ (by assumption)))))
            go_wp2_with fail
            go_ret
            exact ⟨rfl, _, rfl⟩
end

set_option maxHeartbeats 4000000 in
theorem isVolume_any (v : Vol) (w : World) (hs : v.name.size ≤ 9223372036854775807) : Calls Try.prog 69 #[.agg #[.string v.name, .int .i64 v.frm, .int .i64 v.til, .int .i64 v.cnt, .int .i64 v.cop]] w fun e w' => e = .returned (.bool (volB v)) ∧ Below w.heap.size w w' := by
  cases hn : nameB v.name with
  | false =>
    cases h1 : inB v.frm 0 10000000 with
    | false =>
      have hv : volB v = false := by simp only [volB, hn, h1]; rfl
      rw [hv]
      clear hv
      go_enter Try.func69, Try.ntmps69
      go_wp2_with fail
      refine (ValidTime_any v.frm _).mono ?_
      rintro e w' ⟨rfl, rfl⟩
      rw [h1]
      go_wp2_with fail
      refine (implIsName_any v.name _ hs).mono ?_
      rintro e w' ⟨rfl, rfl⟩
      rw [hn]
      go_wp2_with fail
      go_ret
      exact ⟨rfl, by repeat (first | exact Below.refl _ _ | refine Below.alloc ?_ (by simp <;> omega) _)⟩
    | true =>
      have j1 := inB_iff.1 h1
      cases h2 : inB v.til 0 10000000 with
      | false =>
        have h3 : inB v.til v.frm 10000000 = false := by
          cases hx : inB v.til v.frm 10000000 with
          | false => rfl
          | true =>
            have j3 := inB_iff.1 hx
            rw [inB_true (by omega) (by omega)] at h2; cases h2
        have hv : volB v = false := by simp only [volB, hn, h1, h3]; rfl
        rw [hv]
        clear hv
        go_enter Try.func69, Try.ntmps69
        go_wp2_with fail
        refine (ValidTime_any v.frm _).mono ?_
        rintro e w' ⟨rfl, rfl⟩
        rw [h1]
        go_wp2_with fail
        refine (ValidTime_any v.til _).mono ?_
        rintro e w' ⟨rfl, rfl⟩
        rw [h2]
        go_wp2_with fail
        refine (implIsName_any v.name _ hs).mono ?_
        rintro e w' ⟨rfl, rfl⟩
        rw [hn]
        go_wp2_with fail
        go_ret
        exact ⟨rfl, by repeat (first | exact Below.refl _ _ | refine Below.alloc ?_ (by simp <;> omega) _)⟩
      | true =>
        have j2 := inB_iff.1 h2
        by_cases hle : v.frm ≤ v.til
        case neg =>
          have h3 : inB v.til v.frm 10000000 = false := inB_false1 hle
          have hle' : v.til < v.frm := by omega
          have hle2 : decide (v.frm ≤ v.til) = false := by simp; omega
          have hv : volB v = false := by simp only [volB, hn, h1, h3]; rfl
          rw [hv]
          clear hv
          go_enter Try.func69, Try.ntmps69
          go_wp2_with fail
          refine (ValidTime_any v.frm _).mono ?_
          rintro e w' ⟨rfl, rfl⟩
          rw [h1]
          go_wp2_with fail
          refine (ValidTime_any v.til _).mono ?_
          rintro e w' ⟨rfl, rfl⟩
          rw [h2]
          go_wp2_with fail
          refine (implIsName_any v.name _ hs).mono ?_
          rintro e w' ⟨rfl, rfl⟩
          rw [hn]
          go_wp2_with fail
          go_ret
          exact ⟨rfl, by repeat (first | exact Below.refl _ _ | refine Below.alloc ?_ (by simp <;> omega) _)⟩
        have h3 : inB v.til v.frm 10000000 = true := inB_true hle j2.2
        have hv : volB v = false := by simp only [volB, hn]; rfl
        rw [hv]
        clear hv
        go_enter Try.func69, Try.ntmps69
        go_wp2_with fail
        refine (ValidTime_any v.frm _).mono ?_
        rintro e w' ⟨rfl, rfl⟩
        rw [h1]
        go_wp2_with fail
        refine (ValidTime_any v.til _).mono ?_
        rintro e w' ⟨rfl, rfl⟩
        rw [h2]
        go_wp2_with fail
        refine (implIsName_any v.name _ hs).mono ?_
        rintro e w' ⟨rfl, rfl⟩
        rw [hn]
        go_wp2_with fail
        go_ret
        exact ⟨rfl, by repeat (first | exact Below.refl _ _ | refine Below.alloc ?_ (by simp <;> omega) _)⟩
  | true =>
    cases h1 : inB v.frm 0 10000000 with
    | false =>
      have hv : volB v = false := by simp only [volB, hn, h1]; rfl
      rw [hv]
      clear hv
      go_enter Try.func69, Try.ntmps69
      go_wp2_with fail
      refine (ValidTime_any v.frm _).mono ?_
      rintro e w' ⟨rfl, rfl⟩
      rw [h1]
      go_wp2_with fail
      refine (implIsName_any v.name _ hs).mono ?_
      rintro e w' ⟨rfl, rfl⟩
      rw [hn]
      go_wp2_with fail
      go_ret
      exact ⟨rfl, by repeat (first | exact Below.refl _ _ | refine Below.alloc ?_ (by simp <;> omega) _)⟩
    | true =>
      have j1 := inB_iff.1 h1
      cases h2 : inB v.til 0 10000000 with
      | false =>
        have h3 : inB v.til v.frm 10000000 = false := by
          cases hx : inB v.til v.frm 10000000 with
          | false => rfl
          | true =>
            have j3 := inB_iff.1 hx
            rw [inB_true (by omega) (by omega)] at h2; cases h2
        have hv : volB v = false := by simp only [volB, hn, h1, h3]; rfl
        rw [hv]
        clear hv
        go_enter Try.func69, Try.ntmps69
        go_wp2_with fail
        refine (ValidTime_any v.frm _).mono ?_
        rintro e w' ⟨rfl, rfl⟩
        rw [h1]
        go_wp2_with fail
        refine (ValidTime_any v.til _).mono ?_
        rintro e w' ⟨rfl, rfl⟩
        rw [h2]
        go_wp2_with fail
        refine (implIsName_any v.name _ hs).mono ?_
        rintro e w' ⟨rfl, rfl⟩
        rw [hn]
        go_wp2_with fail
        go_ret
        exact ⟨rfl, by repeat (first | exact Below.refl _ _ | refine Below.alloc ?_ (by simp <;> omega) _)⟩
      | true =>
        have j2 := inB_iff.1 h2
        by_cases hle : v.frm ≤ v.til
        case neg =>
          have h3 : inB v.til v.frm 10000000 = false := inB_false1 hle
          have hle' : v.til < v.frm := by omega
          have hle2 : decide (v.frm ≤ v.til) = false := by simp; omega
          have hv : volB v = false := by simp only [volB, hn, h1, h3]; rfl
          rw [hv]
          clear hv
          go_enter Try.func69, Try.ntmps69
          go_wp2_with fail
          refine (ValidTime_any v.frm _).mono ?_
          rintro e w' ⟨rfl, rfl⟩
          rw [h1]
          go_wp2_with fail
          refine (ValidTime_any v.til _).mono ?_
          rintro e w' ⟨rfl, rfl⟩
          rw [h2]
          go_wp2_with fail
          refine (implIsName_any v.name _ hs).mono ?_
          rintro e w' ⟨rfl, rfl⟩
          rw [hn]
          go_wp2_with fail
          go_ret
          exact ⟨rfl, by repeat (first | exact Below.refl _ _ | refine Below.alloc ?_ (by simp <;> omega) _)⟩
        have h3 : inB v.til v.frm 10000000 = true := inB_true hle j2.2
        cases hc : inB v.cnt 1 1000000 with
        | false =>
          have hv : volB v = false := by simp only [volB, hn, h1, h3, hc]; rfl
          rw [hv]
          clear hv
          go_enter Try.func69, Try.ntmps69
          go_wp2_with fail
          refine (ValidTime_any v.frm _).mono ?_
          rintro e w' ⟨rfl, rfl⟩
          rw [h1]
          go_wp2_with fail
          refine (ValidTime_any v.til _).mono ?_
          rintro e w' ⟨rfl, rfl⟩
          rw [h2]
          go_wp2_with fail
          refine (implIsName_any v.name _ hs).mono ?_
          rintro e w' ⟨rfl, rfl⟩
          rw [hn]
          go_wp2_with fail
          refine (in_any v.cnt 1 1000000 _).mono ?_
          rintro e w' ⟨rfl, rfl⟩
          rw [hc]
          go_wp2_with fail
          go_ret
          exact ⟨rfl, by repeat (first | exact Below.refl _ _ | refine Below.alloc ?_ (by simp <;> omega) _)⟩
        | true =>
          cases hp : inB v.cop 0 5 with
          | false =>
            have hv : volB v = false := by simp only [volB, hn, h1, h3, hc, hp]; rfl
            rw [hv]
            clear hv
            go_enter Try.func69, Try.ntmps69
            go_wp2_with fail
            refine (ValidTime_any v.frm _).mono ?_
            rintro e w' ⟨rfl, rfl⟩
            rw [h1]
            go_wp2_with fail
            refine (ValidTime_any v.til _).mono ?_
            rintro e w' ⟨rfl, rfl⟩
            rw [h2]
            go_wp2_with fail
            refine (implIsName_any v.name _ hs).mono ?_
            rintro e w' ⟨rfl, rfl⟩
            rw [hn]
            go_wp2_with fail
            refine (in_any v.cnt 1 1000000 _).mono ?_
            rintro e w' ⟨rfl, rfl⟩
            rw [hc]
            go_wp2_with fail
            refine (in_any v.cop 0 5 _).mono ?_
            rintro e w' ⟨rfl, rfl⟩
            rw [hp]
            go_wp2_with fail
            go_ret
            exact ⟨rfl, by repeat (first | exact Below.refl _ _ | refine Below.alloc ?_ (by simp <;> omega) _)⟩
          | true =>
            have hv : volB v = true := by simp only [volB, hn, h1, h3, hc, hp]; rfl
            rw [hv]
            clear hv
            go_enter Try.func69, Try.ntmps69
            go_wp2_with fail
            refine (ValidTime_any v.frm _).mono ?_
            rintro e w' ⟨rfl, rfl⟩
            rw [h1]
            go_wp2_with fail
            refine (ValidTime_any v.til _).mono ?_
            rintro e w' ⟨rfl, rfl⟩
            rw [h2]
            go_wp2_with fail
            refine (implIsName_any v.name _ hs).mono ?_
            rintro e w' ⟨rfl, rfl⟩
            rw [hn]
            go_wp2_with fail
            refine (in_any v.cnt 1 1000000 _).mono ?_
            rintro e w' ⟨rfl, rfl⟩
            rw [hc]
            go_wp2_with fail
            refine (in_any v.cop 0 5 _).mono ?_
            rintro e w' ⟨rfl, rfl⟩
            rw [hp]
            go_wp2_with fail
            go_ret
            exact ⟨rfl, by repeat (first | exact Below.refl _ _ | refine Below.alloc ?_ (by simp <;> omega) _)⟩

end Go.Proofs.Ytnioecigjpifnaa
