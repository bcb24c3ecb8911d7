/-
  Sums over volumes: estimates, copies, volumes that are lost.
-/
import Derived.Test.YtgdcefdncjmnkaaDoorVolOk
import Derived.Test.YtgdcefdncjmnkaaDoorCopy
import Derived.Test.YtgdcefdncjmnkaaDoorDec2
namespace Go.Proofs.YtgdcefdncjmnkaaDoor
open Go.RowKit
set_option maxRecDepth 100000

def sumC (vs : List Vol) : Nat → Int
  | 0 => 0
  | k + 1 => sumC vs k + (match vs[k]? with | some x => x.cnt | none => 0)
def sumP (vs : List Vol) : Nat → Int
  | 0 => 0
  | k + 1 => sumP vs k + (match vs[k]? with | some x => x.cop | none => 0)
def sumL (vs : List Vol) : Nat → Int
  | 0 => 0
  | k + 1 => sumL vs k + (match vs[k]? with | some x => (if x.cop = 0 then 1 else 0) | none => 0)
theorem sumC_step {vs : List Vol} {k : Nat} {x : Vol} (h : vs[k]? = some x) : sumC vs (k + 1) = sumC vs k + x.cnt := by simp [sumC, h]
theorem sumP_step {vs : List Vol} {k : Nat} {x : Vol} (h : vs[k]? = some x) : sumP vs (k + 1) = sumP vs k + x.cop := by simp [sumP, h]
theorem sumL_step {vs : List Vol} {k : Nat} {x : Vol} (h : vs[k]? = some x) : sumL vs (k + 1) = sumL vs k + (if x.cop = 0 then 1 else 0) := by simp [sumL, h]
theorem vol_bounds {vs : List Vol} {k : Nat} {x : Vol} (hv : volsB vs = true) (hx : vs[k]? = some x) : 1 ≤ x.cnt ∧ x.cnt ≤ 1000000 ∧ 0 ≤ x.cop ∧ x.cop ≤ 5 := by
  have h := volsB_at hv hx
  simp only [volB, Bool.and_eq_true] at h
  have h1 := inB_iff.1 h.2.2.2.1
  have h2 := inB_iff.1 h.2.2.2.2
  exact ⟨h1.1, h1.2, h2.1, h2.2⟩
theorem sums_bound {vs : List Vol} (hv : volsB vs = true) : ∀ k : Nat, k ≤ vs.length → 0 ≤ sumC vs k ∧ sumC vs k ≤ 1000000 * (k : Int) ∧ 0 ≤ sumP vs k ∧ sumP vs k ≤ 5 * (k : Int) ∧ 0 ≤ sumL vs k ∧ sumL vs k ≤ (k : Int)
  | 0, _ => by simp [sumC, sumP, sumL]
  | k + 1, hk => by
    obtain ⟨x, hx, _⟩ := take_snoc' vs k (by omega)
    have ih := sums_bound hv k (by omega)
    have hb := vol_bounds hv hx
    rw [sumC_step hx, sumP_step hx, sumL_step hx]
    split <;> omega
def sumText (vs : List Vol) : ByteArray := decB vs.length ++ ⟨#[32, 118, 111, 108, 117, 109, 101, 115, 32]⟩ ++ decB (sumC vs vs.length) ++ ⟨#[32, 101, 115, 116, 105, 109, 97, 116, 101, 115, 32]⟩ ++ decB (sumP vs vs.length) ++ ⟨#[32, 99, 111, 112, 105, 101, 115, 32]⟩ ++ decB (sumL vs vs.length) ++ ⟨#[32, 108, 111, 115, 116]⟩
def sumB (vs : List Vol) : ByteArray := if volsB vs = true then sumText vs else ⟨#[]⟩
section
variable (vs : List Vol) (a : Option Addr) (n c : Nat) (w : World) (hn : n ≤ 1048576) (hl : vs.length = n) (ho : ∀ v ∈ vs, Vol.Ok v) (hr : Rd Vol.enc 5 w a vs)
include hn hl ho hr

set_option maxHeartbeats 4000000 in
theorem specSum : Calls Tryd.prog 5 #[.slice a n c] w fun e w' => e = .returned (.string (sumB vs)) ∧ Below w.heap.size w w' := by
  have HL := Lib.hid hl
  have HO := Lib.hid ho
  clear hl ho
  cases hv : volsB vs with
  | false =>
    rw [show sumB vs = ⟨#[]⟩ from if_neg (by rw [hv]; simp)]
    have HV := Lib.hid hv
    clear hv
    go_enter Tryd.func5, Tryd.ntmps5
    go_wp2_with fail
    refine (l23Ok_lit vs _ a n c _ hn HL.out HO.out hr HV.out).mono ?_
    rintro e w1 ⟨rfl, hb⟩
    go_wp2_with fail
    go_ret
    exact ⟨rfl, hb⟩
  | true =>
  rw [show sumB vs = sumText vs from if_pos hv]
  have HV := Lib.hid hv
  have HBD := Lib.hid (sums_bound hv)
  have h40 := volsB_len hv
  rw [HL.out] at h40
  clear hv
  go_enter Tryd.func5, Tryd.ntmps5
  go_wp2_with fail
  refine (l23Ok_lit vs _ a n c _ hn HL.out HO.out hr HV.out).mono ?_
  rintro e w1 ⟨rfl, hb⟩
  have hr1 := hr.below hb
  have HB := Lib.hid hb
  clear hr hb
  go_wp2_with fail
  go_loopw [3, 4, 5, 6] (fun p q r i wr => ∃ k : Nat, k ≤ n ∧ i = .int .i64 k ∧ p = .int .i64 (sumC vs k) ∧ q = .int .i64 (sumP vs k) ∧ r = .int .i64 (sumL vs k) ∧ Below w1.heap.size w1 wr) (fun _ _ _ i _ => n - (intOf i).toNat)
  case atStart => exact ⟨0, Nat.zero_le _, rfl, rfl, rfl, rfl, Below.refl _ _⟩
  case round =>
    obtain ⟨k, hk, rfl, rfl, rfl, rfl, hb1⟩ := hrel
    by_cases hlt : k < n
    · obtain ⟨x, hx, htk⟩ := take_snoc' vs k (by rw [HL.out]; omega)
      obtain ⟨b, o, rfl, hbl, hc⟩ := (hr1.below hb1) k x hx
      have hbd := HBD.out k (by rw [HL.out]; omega)
      have hvb := vol_bounds HV.out hx
      have H1 := Lib.hid (sumC_step hx)
      have H2 := Lib.hid (sumP_step hx)
      have H3 := Lib.hid (sumL_step hx)
      obtain ⟨A, hA⟩ : ∃ A, sumC vs k = A := ⟨_, rfl⟩
      obtain ⟨B, hB⟩ : ∃ B, sumP vs k = B := ⟨_, rfl⟩
      obtain ⟨D, hD⟩ : ∃ D, sumL vs k = D := ⟨_, rfl⟩
      rw [hA, hB, hD] at hbd ⊢
      rw [hA] at H1
      rw [hB] at H2
      rw [hD] at H3
      have i1 : IntKind.i64.wrap (A + x.cnt) = A + x.cnt := IntWalk.i64_in _ (by omega)
      have i2 : IntKind.i64.wrap (B + x.cop) = B + x.cop := IntWalk.i64_in _ (by omega)
      have i3 : IntKind.i64.wrap (D + 1) = D + 1 := IntWalk.i64_in _ (by omega)
      have c3 := hc 3 _ rfl
      have c4 := hc 4 _ rfl
      clear hbd hvb hA hB hD htk hc hr1
      by_cases h0 : x.cop = 0
      · have H4 : Hid (sumL vs (k + 1) = D + 1) := Lib.hid (by rw [H3.out, if_pos h0])
        have d0 : (x.cop == 0) = true := by rw [beq_iff_eq]; exact h0
        clear h0
        have hbx := hb1
        go_wp2_with fail
        go_roundw
        case rel => exact ⟨k + 1, by omega, by go_num, by rw [H1.out], by rw [H2.out], by rw [H4.out], hbx⟩
        case measure => simp [intOf]; omega
      · have H4 : Hid (sumL vs (k + 1) = D) := Lib.hid (by rw [H3.out, if_neg h0]; omega)
        have d0 : (x.cop == 0) = false := by rw [beq_eq_false_iff_ne]; exact h0
        clear h0
        have hbx := hb1
        go_wp2_with fail
        go_roundw
        case rel => exact ⟨k + 1, by omega, by go_num, by rw [H1.out], by rw [H2.out], by rw [H4.out], hbx⟩
        case measure => simp [intOf]; omega
    · obtain rfl : k = n := by omega
      have hbd := HBD.out k (by rw [HL.out]; omega)
      have HTX : Hid (sumText vs = decB (k : Int) ++ ⟨#[32, 118, 111, 108, 117, 109, 101, 115, 32]⟩ ++ decB (sumC vs k) ++ ⟨#[32, 101, 115, 116, 105, 109, 97, 116, 101, 115, 32]⟩ ++ decB (sumP vs k) ++ ⟨#[32, 99, 111, 112, 105, 101, 115, 32]⟩ ++ decB (sumL vs k) ++ ⟨#[32, 108, 111, 115, 116]⟩) := Lib.hid (by rw [sumText, HL.out])
      generalize sumC vs k = A at *
      generalize sumP vs k = B at *
      generalize sumL vs k = D at *
      have j0 : I64 (k : Int) := by unfold I64; omega
      have j1 : I64 A := by unfold I64; omega
      have j2 : I64 B := by unfold I64; omega
      have j3 : I64 D := by unfold I64; omega
      have z0 := decB_len _ j0
      have z1 := decB_len _ j1
      have z2 := decB_len _ j2
      have z3 := decB_len _ j3
      have J0 := Lib.hid j0
      have J1 := Lib.hid j1
      have J2 := Lib.hid j2
      have J3 := Lib.hid j3
      clear hbd j0 j1 j2 j3 hr1
      go_wp2_with fail
      refine (l01Dec_any _ J0.out _).mono ?_
      rintro e v0 ⟨rfl, hc0⟩
      go_wp2_with fail
      refine (l01Dec_any _ J1.out _).mono ?_
      rintro e v1 ⟨rfl, hc1⟩
      go_wp2_with fail
      refine (l01Dec_any _ J2.out _).mono ?_
      rintro e v2 ⟨rfl, hc2⟩
      go_wp2_with fail
      refine (l01Dec_any _ J3.out _).mono ?_
      rintro e v3 ⟨rfl, hc3⟩
      go_wp2_with fail
      go_ret
      have hb2 := HB.out.trans (hb1.mono HB.out.size)
      have hb3 := hb2.trans (hc0.mono hb2.size)
      have hb4 := hb3.trans (hc1.mono hb3.size)
      have hb5 := hb4.trans (hc2.mono hb4.size)
      have hb6 := hb5.trans (hc3.mono hb5.size)
      exact ⟨by rw [HTX.out]; rfl, hb6⟩

set_option maxHeartbeats 4000000 in
theorem implSum (hT : TabOk w) : Calls Tryd.prog 7 #[.slice a n c] w fun e w' => e = .returned (.string (sumB vs)) ∧ Below w.heap.size w w' := by
  have HL := Lib.hid hl
  have HO := Lib.hid ho
  have HT := Lib.hid hT
  clear hT
  clear hl ho
  cases hv : volsB vs with
  | false =>
    rw [show sumB vs = ⟨#[]⟩ from if_neg (by rw [hv]; simp)]
    have HV := Lib.hid hv
    clear hv
    go_enter Tryd.func7, Tryd.ntmps7
    go_wp2_with fail
    refine (validV_lit vs _ a n c _ hn HL.out HO.out hr HV.out).mono ?_
    rintro e w1 ⟨rfl, hb⟩
    go_wp2_with fail
    go_ret
    exact ⟨rfl, hb⟩
  | true =>
  rw [show sumB vs = sumText vs from if_pos hv]
  have HV := Lib.hid hv
  have HBD := Lib.hid (sums_bound hv)
  have h40 := volsB_len hv
  rw [HL.out] at h40
  clear hv
  go_enter Tryd.func7, Tryd.ntmps7
  go_wp2_with fail
  refine (validV_lit vs _ a n c _ hn HL.out HO.out hr HV.out).mono ?_
  rintro e w1 ⟨rfl, hb⟩
  have hr1 := hr.below hb
  have HB := Lib.hid hb
  clear hr hb
  go_wp2_with fail
  go_loopw [3, 4, 5, 13] (fun p q r i wr => ∃ k : Nat, k ≤ n ∧ i = .int .i64 k ∧ p = .int .i64 (sumC vs k) ∧ q = .int .i64 (sumP vs k) ∧ r = .int .i64 (sumL vs k) ∧ Below w1.heap.size w1 wr) (fun _ _ _ i _ => n - (intOf i).toNat)
  case atStart => exact ⟨0, Nat.zero_le _, rfl, rfl, rfl, rfl, Below.refl _ _⟩
  case round =>
    obtain ⟨k, hk, rfl, rfl, rfl, rfl, hb1⟩ := hrel
    by_cases hlt : k < n
    · obtain ⟨x, hx, htk⟩ := take_snoc' vs k (by rw [HL.out]; omega)
      obtain ⟨b, o, rfl, hbl, hc⟩ := (hr1.below hb1) k x hx
      have hbd := HBD.out k (by rw [HL.out]; omega)
      have hvb := vol_bounds HV.out hx
      have H1 := Lib.hid (sumC_step hx)
      have H2 := Lib.hid (sumP_step hx)
      have H3 := Lib.hid (sumL_step hx)
      obtain ⟨A, hA⟩ : ∃ A, sumC vs k = A := ⟨_, rfl⟩
      obtain ⟨B, hB⟩ : ∃ B, sumP vs k = B := ⟨_, rfl⟩
      obtain ⟨D, hD⟩ : ∃ D, sumL vs k = D := ⟨_, rfl⟩
      rw [hA, hB, hD] at hbd ⊢
      rw [hA] at H1
      rw [hB] at H2
      rw [hD] at H3
      have i1 : IntKind.i64.wrap (A + x.cnt) = A + x.cnt := IntWalk.i64_in _ (by omega)
      have i2 : IntKind.i64.wrap (B + x.cop) = B + x.cop := IntWalk.i64_in _ (by omega)
      have i3 : IntKind.i64.wrap (D + 1) = D + 1 := IntWalk.i64_in _ (by omega)
      have c0 := hc 0 _ rfl
      rw [Nat.add_zero] at c0
      have c1 := hc 1 _ rfl
      have c2 := hc 2 _ rfl
      have c3 := hc 3 _ rfl
      have c4 := hc 4 _ rfl
      obtain ⟨_, n0, n1, n2, n3, n4⟩ := At5.new wr x 33
      simp only [Nat.zero_add] at n1 n2 n3 n4
      have HBA := Lib.hid (hb1.trans (((Below.refl wr.heap.size wr).alloc (Nat.le_refl _) (.cells #[.string x.name, .int .i64 x.frm, .int .i64 x.til, .int .i64 x.cnt, .int .i64 x.cop] 33)).mono hb1.size))
      clear hbd hvb hA hB hD htk hc hr1
      by_cases h0 : x.cop = 0
      · have H4 : Hid (sumL vs (k + 1) = D + 1) := Lib.hid (by rw [H3.out, if_pos h0])
        have d0 : (x.cop == 0) = true := by rw [beq_iff_eq]; exact h0
        clear h0
        go_upto_region 7 with (fail)
        generalize wr.alloc (.cells #[.string x.name, .int .i64 x.frm, .int .i64 x.til, .int .i64 x.cnt, .int .i64 x.cop] 33) = wa at *
        go_quiet (fail)
        have hbx : Below w1.heap.size w1 (wa.drewN nq) := below_drewN HBA.out nq
        go_wp2_with fail
        go_roundw
        case rel => exact ⟨k + 1, by omega, by go_num, by rw [H1.out], by rw [H2.out], by rw [H4.out], hbx⟩
        case measure => simp [intOf]; omega
      · have H4 : Hid (sumL vs (k + 1) = D) := Lib.hid (by rw [H3.out, if_neg h0]; omega)
        have d0 : (x.cop == 0) = false := by rw [beq_eq_false_iff_ne]; exact h0
        clear h0
        go_upto_region 7 with (fail)
        generalize wr.alloc (.cells #[.string x.name, .int .i64 x.frm, .int .i64 x.til, .int .i64 x.cnt, .int .i64 x.cop] 33) = wa at *
        go_quiet (fail)
        have hbx : Below w1.heap.size w1 (wa.drewN nq) := below_drewN HBA.out nq
        go_wp2_with fail
        go_roundw
        case rel => exact ⟨k + 1, by omega, by go_num, by rw [H1.out], by rw [H2.out], by rw [H4.out], hbx⟩
        case measure => simp [intOf]; omega
    · obtain rfl : k = n := by omega
      have hbd := HBD.out k (by rw [HL.out]; omega)
      have HTX : Hid (sumText vs = decB (k : Int) ++ ⟨#[32, 118, 111, 108, 117, 109, 101, 115, 32]⟩ ++ decB (sumC vs k) ++ ⟨#[32, 101, 115, 116, 105, 109, 97, 116, 101, 115, 32]⟩ ++ decB (sumP vs k) ++ ⟨#[32, 99, 111, 112, 105, 101, 115, 32]⟩ ++ decB (sumL vs k) ++ ⟨#[32, 108, 111, 115, 116]⟩) := Lib.hid (by rw [sumText, HL.out])
      generalize sumC vs k = A at *
      generalize sumP vs k = B at *
      generalize sumL vs k = D at *
      have j0 : I64 (k : Int) := by unfold I64; omega
      have j1 : I64 A := by unfold I64; omega
      have j2 : I64 B := by unfold I64; omega
      have j3 : I64 D := by unfold I64; omega
      have z0 := decB_len _ j0
      have z1 := decB_len _ j1
      have z2 := decB_len _ j2
      have z3 := decB_len _ j3
      have J0 := Lib.hid j0
      have J1 := Lib.hid j1
      have J2 := Lib.hid j2
      have J3 := Lib.hid j3
      clear hbd j0 j1 j2 j3 hr1
      go_wp2_with fail
      refine (countVol_any a k c _).mono ?_
      rintro e v9 ⟨rfl, rfl⟩
      go_wp2_with fail
      have HT0 := Lib.hid (HT.out.below (HB.out.trans (hb1.mono HB.out.size)))
      refine (Decimal_any _ J0.out _ HT0.out).mono ?_
      rintro e v0 ⟨rfl, hc0⟩
      have HT1 := Lib.hid (HT0.out.below hc0)
      go_wp2_with fail
      refine (Decimal_any _ J1.out _ HT1.out).mono ?_
      rintro e v1 ⟨rfl, hc1⟩
      have HT2 := Lib.hid (HT1.out.below hc1)
      go_wp2_with fail
      refine (Decimal_any _ J2.out _ HT2.out).mono ?_
      rintro e v2 ⟨rfl, hc2⟩
      have HT3 := Lib.hid (HT2.out.below hc2)
      go_wp2_with fail
      refine (Decimal_any _ J3.out _ HT3.out).mono ?_
      rintro e v3 ⟨rfl, hc3⟩
      go_wp2_with fail
      go_ret
      have hb2 := HB.out.trans (hb1.mono HB.out.size)
      have hb3 := hb2.trans (hc0.mono hb2.size)
      have hb4 := hb3.trans (hc1.mono hb3.size)
      have hb5 := hb4.trans (hc2.mono hb4.size)
      have hb6 := hb5.trans (hc3.mono hb5.size)
      exact ⟨by rw [HTX.out]; rfl, hb6⟩
end
end Go.Proofs.YtgdcefdncjmnkaaDoor
