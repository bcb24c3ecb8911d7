/-
  Padding: a text with blanks in front or behind.
-/
import Derived.Test.YtkgkammobogcbaaPlain
import Derived.Test.YtkgkammobogcbaaMore
import Derived.Test.YtkgkammobogcbaaWords
import Derived.Test.YtkgkammobogcbaaShelf
namespace Go.Proofs.Ytkgkammobogcbaa
open Go.RowKit
set_option maxRecDepth 100000

def blanksB (m : Nat) : ByteArray := ⟨(List.replicate m (32 : UInt8)).toArray⟩
theorem blanksB_size (m : Nat) : (blanksB m).size = m := by simp [blanksB, ByteArray.size]
def padC (s : ByteArray) (wd : Int) : Int := if plainB s = true then (if inB wd 0 80 = true then (if (s.size : Int) ≤ wd then 0 else 5) else 2) else 7
def padN (s : ByteArray) (wd : Int) : Nat := (wd - s.size).toNat
theorem padC_7 {s : ByteArray} {wd : Int} (h : plainB s = false) : padC s wd = 7 := by simp [padC, h]
theorem padC_2 {s : ByteArray} {wd : Int} (h : plainB s = true) (h2 : inB wd 0 80 = false) : padC s wd = 2 := by simp [padC, h, h2]
theorem padC_5 {s : ByteArray} {wd : Int} (h : plainB s = true) (h2 : inB wd 0 80 = true) (h3 : ¬ (s.size : Int) ≤ wd) : padC s wd = 5 := by simp [padC, h, h2, h3]
theorem padC_0 {s : ByteArray} {wd : Int} (h : plainB s = true) (h2 : inB wd 0 80 = true) (h3 : (s.size : Int) ≤ wd) : padC s wd = 0 := by simp [padC, h, h2, h3]
theorem padC_ok {s : ByteArray} {wd : Int} (h : padC s wd = 0) : inB wd 0 80 = true ∧ (s.size : Int) ≤ wd := by
  unfold padC at h
  split at h
  · split at h
    · split at h
      · exact ⟨by assumption, by assumption⟩
      · cases h
    · cases h
  · cases h
def padBl (s : ByteArray) (wd : Int) : ByteArray := if padC s wd = 0 then blanksB (padN s wd) else ⟨#[]⟩
def padLf (s : ByteArray) (wd : Int) : ByteArray := if padC s wd = 0 then blanksB (padN s wd) ++ s else ⟨#[]⟩
def padRt (s : ByteArray) (wd : Int) : ByteArray := if padC s wd = 0 then s ++ blanksB (padN s wd) else ⟨#[]⟩

theorem l24Width_any (wd : Int) (w : World) : Calls Try.prog 50 #[.int .i64 wd] w fun e w' => e = .returned (.bool (inB wd 0 80)) ∧ w = w' := by
  go_enter Try.func50, Try.ntmps50
  go_wp2_with fail
  refine (l00In_any wd 0 80 _).mono ?_
  rintro e w1 ⟨rfl, rfl⟩
  go_wp2_with fail
  go_ret
  exact ⟨rfl, rfl⟩

theorem infoU8 : (Try.prog.info? 5).map (fun i => (i.zero, i.size, i.bytes)) = some (some (.int .u8 0), 1, 1) := by kernel_rfl
set_option maxHeartbeats 1000000 in
theorem l24Blanks_any (m : Nat) (w : World) (hm : m ≤ 1048576) : Calls Try.prog 30 #[.int .i64 m] w fun e w' => e = .returned (.string (blanksB m)) ∧ Below w.heap.size w w' := by
  go_enter Try.func30, Try.ntmps30
  go_wp2_with fail
  go_loopw [0, 3] (fun i v wr => ∃ (k j : Nat) (a' : Option Addr) (c' : Nat), k + j = m ∧ i = .int .i64 j ∧ v = .slice a' k c' ∧ Ow eU 1 wr w.heap.size 5 (.slice a' k c') k (List.replicate k 32) ∧ Below w.heap.size w wr) (fun i _ _ => (intOf i).toNat)
  case atStart => exact ⟨0, m, _, _, by omega, rfl, rfl, Ow.built _ _ _ _, below_built _ _⟩
  case round =>
    obtain ⟨k, j, a', c', hkj, rfl, rfl, hown, hb⟩ := hrel
    by_cases hj : j = 0
    · subst hj
      obtain rfl : k = m := by omega
      have hcv := conv_back (P := Try.prog) (src := 55) (dst := 9) (e := 5) (cap := c') (l := List.replicate k 32) List.length_replicate (hown.rd eU_len (by decide)) Try.underlying55 Try.underlying5 Try.underlying9
      go_wp2_with fail
      go_ret
      exact ⟨rfl, hb⟩
    · obtain ⟨i, rfl⟩ : ∃ i, j = i + 1 := ⟨j - 1, by omega⟩
      have HY : Hid (List.replicate k (32 : UInt8) ++ [32] = List.replicate (k + 1) 32) := Lib.hid (by rw [List.replicate_succ'])
      have h63 : k + 1 ≤ maxLen := by unfold maxLen; omega
      have hby : (k + 1) * 1 ≤ 140737488355328 := by omega
      have d0 : decide ((0 : Int) < ((i + 1 : Nat) : Int)) = true := by simp <;> omega
      have i0 : IntKind.i64.wrap (((i + 1 : Nat) : Int) - 1) = (i : Int) := by rw [IntWalk.i64_in _ (by omega)]; omega
      have i1 : IntKind.i64.wrap (((i : Nat) : Int) + 1 - 1) = (i : Int) := by rw [IntWalk.i64_in _ (by omega)]; omega
      clear hj
      go_wp2_with (at_builtin; refine wpl_appn eU_len (by decide) eU_one _ rfl (.tmp 9) (.tmp 10) 55 rfl 5 (.int .u8 0) 1 rfl Try.underlying55 infoU8 w.heap.size _ k _ rfl wr _ 5 rfl hown [(32 : UInt8)] 1 rfl rfl rfl h63 hby hb.size _ HY ?_)
      intro a1 c1 w1 hown1 hb1 hlt1
      have hb2 := hb.trans hb1
      clear hown hb hb1 hlt1 HY
      go_wp2_with fail
      go_roundw
      case rel => exact ⟨k + 1, i, a1, c1, by omega, by first | rfl | go_num, rfl, hown1, hb2⟩
      case measure => simp [intOf] <;> omega

section
variable (s : ByteArray) (wd : Int) (w : World) (hs : s.size ≤ 1048576) (hw : I64 wd)
include hs hw
set_option maxHeartbeats 1000000 in
theorem l24Code_any : Calls Try.prog 29 #[.string s, .int .i64 wd] w fun e w' => e = .returned (.int .i64 (padC s wd)) ∧ w = w' := by
  have HS := Lib.hid hs
  have HW := Lib.hid hw
  have wl : (s.size : Int) ≤ 9223372036854775807 := by omega
  clear hs hw
  cases h1 : plainB s with
  | false =>
    rw [padC_7 h1]
    have H1 := Lib.hid h1
    clear h1
    go_enter Try.func29, Try.ntmps29
    go_wp2_with fail
    refine (l24Plain_any s _ (by have := HS.out; omega)).mono ?_
    rintro e w1 ⟨rfl, rfl⟩
    rw [H1.out]
    go_wp2_with fail
    go_ret
    exact ⟨rfl, rfl⟩
  | true =>
  cases h2 : inB wd 0 80 with
  | false =>
    rw [padC_2 h1 h2]
    have H1 := Lib.hid h1
    clear h1
    have H2 := Lib.hid h2
    clear h2
    go_enter Try.func29, Try.ntmps29
    go_wp2_with fail
    refine (l24Plain_any s _ (by have := HS.out; omega)).mono ?_
    rintro e w1 ⟨rfl, rfl⟩
    rw [H1.out]
    go_wp2_with fail
    refine (l24Width_any wd _).mono ?_
    rintro e w1 ⟨rfl, rfl⟩
    rw [H2.out]
    go_wp2_with fail
    go_ret
    exact ⟨rfl, rfl⟩
  | true =>
  by_cases h3 : (s.size : Int) ≤ wd
  case neg =>
    rw [padC_5 h1 h2 h3]
    have H1 := Lib.hid h1
    clear h1
    have H2 := Lib.hid h2
    clear h2
    have d3 : decide (wd < (s.size : Int)) = true := by simp; omega
    have d4 : wd < (s.size : Int) := by omega
    clear h3
    go_enter Try.func29, Try.ntmps29
    go_wp2_with fail
    refine (l24Plain_any s _ (by have := HS.out; omega)).mono ?_
    rintro e w1 ⟨rfl, rfl⟩
    rw [H1.out]
    go_wp2_with fail
    refine (l24Width_any wd _).mono ?_
    rintro e w1 ⟨rfl, rfl⟩
    rw [H2.out]
    go_wp2_with fail
    go_ret
    exact ⟨rfl, rfl⟩
  rw [padC_0 h1 h2 h3]
  have H1 := Lib.hid h1
  clear h1
  have hb := inB_iff.1 h2
  have H2 := Lib.hid h2
  have d3 : decide (wd < (s.size : Int)) = false := by simp; omega
  have d4 : ¬ wd < (s.size : Int) := by omega
  obtain ⟨m, hm⟩ : ∃ m : Nat, wd - (s.size : Int) = m := ⟨(wd - s.size).toNat, by omega⟩
  have hmm : m ≤ 80 := by omega
  have i0 : IntKind.i64.wrap (wd - (s.size : Int)) = (m : Int) := by rw [IntWalk.i64_in _ (by omega)]; exact hm
  have HN : Hid (padN s wd = m) := Lib.hid (by unfold padN; omega)
  clear h2 h3 hm hb
  go_enter Try.func29, Try.ntmps29
  go_wp2_with fail
  refine (l24Plain_any s _ (by have := HS.out; omega)).mono ?_
  rintro e w1 ⟨rfl, rfl⟩
  rw [H1.out]
  go_wp2_with fail
  refine (l24Width_any wd _).mono ?_
  rintro e w1 ⟨rfl, rfl⟩
  rw [H2.out]
  clear i0 HN hmm
  go_wp2_with fail
  go_ret
  exact ⟨rfl, rfl⟩
set_option maxHeartbeats 1000000 in
theorem padding_any : Calls Try.prog 31 #[.string s, .int .i64 wd] w fun e w' => e = .returned (.tuple #[.string (padBl s wd), .int .i64 (padC s wd)]) ∧ Below w.heap.size w w' := by
  have HS := Lib.hid hs
  have HW := Lib.hid hw
  have wl : (s.size : Int) ≤ 9223372036854775807 := by omega
  clear hs hw
  cases h1 : plainB s with
  | false =>
    rw [padBl, padC_7 h1]
    have H1 := Lib.hid h1
    clear h1
    go_enter Try.func31, Try.ntmps31
    go_wp2_with fail
    refine (isPlain_any s _ (by have := HS.out; omega)).mono ?_
    rintro e w1 ⟨rfl, rfl⟩
    rw [H1.out]
    go_wp2_with fail
    go_ret2
    exact ⟨rfl, Below.refl _ _⟩
  | true =>
  cases h2 : inB wd 0 80 with
  | false =>
    rw [padBl, padC_2 h1 h2]
    have H1 := Lib.hid h1
    clear h1
    have H2 := Lib.hid h2
    clear h2
    go_enter Try.func31, Try.ntmps31
    go_wp2_with fail
    refine (isPlain_any s _ (by have := HS.out; omega)).mono ?_
    rintro e w1 ⟨rfl, rfl⟩
    rw [H1.out]
    go_wp2_with fail
    refine (in_any wd 0 80 _).mono ?_
    rintro e w1 ⟨rfl, rfl⟩
    rw [H2.out]
    go_wp2_with fail
    go_ret2
    exact ⟨rfl, Below.refl _ _⟩
  | true =>
  by_cases h3 : (s.size : Int) ≤ wd
  case neg =>
    rw [padBl, padC_5 h1 h2 h3]
    have H1 := Lib.hid h1
    clear h1
    have H2 := Lib.hid h2
    clear h2
    have d3 : decide (wd < (s.size : Int)) = true := by simp; omega
    have d4 : wd < (s.size : Int) := by omega
    clear h3
    go_enter Try.func31, Try.ntmps31
    go_wp2_with fail
    refine (isPlain_any s _ (by have := HS.out; omega)).mono ?_
    rintro e w1 ⟨rfl, rfl⟩
    rw [H1.out]
    go_wp2_with fail
    refine (in_any wd 0 80 _).mono ?_
    rintro e w1 ⟨rfl, rfl⟩
    rw [H2.out]
    go_wp2_with fail
    go_ret2
    exact ⟨rfl, Below.refl _ _⟩
  rw [padBl, padC_0 h1 h2 h3]
  have H1 := Lib.hid h1
  clear h1
  have hb := inB_iff.1 h2
  have H2 := Lib.hid h2
  have d3 : decide (wd < (s.size : Int)) = false := by simp; omega
  have d4 : ¬ wd < (s.size : Int) := by omega
  obtain ⟨m, hm⟩ : ∃ m : Nat, wd - (s.size : Int) = m := ⟨(wd - s.size).toNat, by omega⟩
  have hmm : m ≤ 80 := by omega
  have i0 : IntKind.i64.wrap (wd - (s.size : Int)) = (m : Int) := by rw [IntWalk.i64_in _ (by omega)]; exact hm
  have HN : Hid (padN s wd = m) := Lib.hid (by unfold padN; omega)
  clear h2 h3 hm hb
  go_enter Try.func31, Try.ntmps31
  go_wp2_with fail
  refine (isPlain_any s _ (by have := HS.out; omega)).mono ?_
  rintro e w1 ⟨rfl, rfl⟩
  rw [H1.out]
  go_wp2_with fail
  refine (in_any wd 0 80 _).mono ?_
  rintro e w1 ⟨rfl, rfl⟩
  rw [H2.out]
  go_wp2_with fail
  refine (Shstrings_Repeat ⟨#[32]⟩ m _ (by omega) (by show 1 * m ≤ _; omega)).mono ?_
  rintro e w1 ⟨rfl, hb1⟩
  have HR : Hid ((⟨(Lib.repeatL (ByteArray.mk #[32]).data.toList m).toArray⟩ : ByteArray) = blanksB m) := Lib.hid (by have := Lib.repeatL_replicate 32 1 m; rw [Nat.mul_one] at this; unfold blanksB; rw [← this]; rfl)
  go_wp2_with fail
  go_ret2
  exact ⟨by rw [HN.out, ← HR.out]; rfl, hb1⟩
set_option maxHeartbeats 1000000 in
theorem specPadLeft : Calls Try.prog 7 #[.string s, .int .i64 wd] w fun e w' => e = .returned (.tuple #[.string (padLf s wd), .int .i64 (padC s wd)]) ∧ Below w.heap.size w w' := by
  have HS := Lib.hid hs
  have HW := Lib.hid hw
  have wl : (s.size : Int) ≤ 9223372036854775807 := by omega
  clear hs hw
  by_cases hz : padC s wd = 0
  case neg =>
    have d0 : (padC s wd != 0) = true := by rw [bne_iff_ne]; exact hz
    rw [show padLf s wd = ⟨#[]⟩ from if_neg hz]
    clear hz
    go_enter Try.func7, Try.ntmps7
    go_wp2_with fail
    refine (l24Code_any s wd _ HS.out HW.out).mono ?_
    rintro e w1 ⟨rfl, rfl⟩
    go_wp2_with fail
    go_ret2
    exact ⟨rfl, Below.refl _ _⟩
  obtain ⟨hb, hle⟩ := padC_ok hz
  have hb' := inB_iff.1 hb
  rw [show padLf s wd = _ from if_pos hz, hz]
  have HZ := Lib.hid hz
  obtain ⟨m, hm⟩ : ∃ m : Nat, wd - (s.size : Int) = m := ⟨(wd - s.size).toNat, by omega⟩
  have hmm : m ≤ 80 := by omega
  have i0 : IntKind.i64.wrap (wd - (s.size : Int)) = (m : Int) := by rw [IntWalk.i64_in _ (by omega)]; exact hm
  have HN : Hid (padN s wd = m) := Lib.hid (by unfold padN; omega)
  have q1 : ¬ (9223372036854775807 : Int) < ((blanksB m).size : Int) + (s.size : Int) := by rw [blanksB_size]; omega
  have q2 : ¬ (9223372036854775807 : Int) < (s.size : Int) + ((blanksB m).size : Int) := by rw [blanksB_size]; omega
  clear hz hb hb' hm hle
  go_enter Try.func7, Try.ntmps7
  go_wp2_with fail
  refine (l24Code_any s wd _ HS.out HW.out).mono ?_
  rintro e w1 ⟨rfl, rfl⟩
  rw [HZ.out]
  go_wp2_with fail
  refine (l24Blanks_any m _ (by omega)).mono ?_
  rintro e w2 ⟨rfl, hb2⟩
  go_wp2_with fail
  go_ret2
  exact ⟨by rw [HN.out]; rfl, hb2⟩
set_option maxHeartbeats 1000000 in
theorem implPadLeft : Calls Try.prog 8 #[.string s, .int .i64 wd] w fun e w' => e = .returned (.tuple #[.string (padLf s wd), .int .i64 (padC s wd)]) ∧ Below w.heap.size w w' := by
  have HS := Lib.hid hs
  have HW := Lib.hid hw
  have wl : (s.size : Int) ≤ 9223372036854775807 := by omega
  clear hs hw
  by_cases hz : padC s wd = 0
  case neg =>
    have d0 : (padC s wd != 0) = true := by rw [bne_iff_ne]; exact hz
    rw [show padLf s wd = ⟨#[]⟩ from if_neg hz]
    clear hz
    go_enter Try.func8, Try.ntmps8
    go_wp2_with fail
    refine (padding_any s wd _ HS.out HW.out).mono ?_
    rintro e w1 ⟨rfl, hb1⟩
    go_wp2_with fail
    go_ret2
    exact ⟨rfl, hb1⟩
  obtain ⟨hb, hle⟩ := padC_ok hz
  have hb' := inB_iff.1 hb
  have hmm : padN s wd ≤ 80 := by unfold padN; omega
  have hv : padLf s wd = _ := if_pos hz
  have hbl : padBl s wd = _ := if_pos hz
  have q1 : ¬ (9223372036854775807 : Int) < ((blanksB (padN s wd)).size : Int) + (s.size : Int) := by rw [blanksB_size]; omega
  have q2 : ¬ (9223372036854775807 : Int) < (s.size : Int) + ((blanksB (padN s wd)).size : Int) := by rw [blanksB_size]; omega
  rw [hv, hz]
  have HZ := Lib.hid hz
  have HB := Lib.hid hbl
  clear hz hb hb' hle hv hbl
  go_enter Try.func8, Try.ntmps8
  go_wp2_with fail
  refine (padding_any s wd _ HS.out HW.out).mono ?_
  rintro e w1 ⟨rfl, hb1⟩
  rw [HZ.out, HB.out]
  go_wp2_with fail
  go_ret2
  exact ⟨rfl, hb1⟩
set_option maxHeartbeats 1000000 in
theorem specPadRight : Calls Try.prog 9 #[.string s, .int .i64 wd] w fun e w' => e = .returned (.tuple #[.string (padRt s wd), .int .i64 (padC s wd)]) ∧ Below w.heap.size w w' := by
  have HS := Lib.hid hs
  have HW := Lib.hid hw
  have wl : (s.size : Int) ≤ 9223372036854775807 := by omega
  clear hs hw
  by_cases hz : padC s wd = 0
  case neg =>
    have d0 : (padC s wd != 0) = true := by rw [bne_iff_ne]; exact hz
    rw [show padRt s wd = ⟨#[]⟩ from if_neg hz]
    clear hz
    go_enter Try.func9, Try.ntmps9
    go_wp2_with fail
    refine (l24Code_any s wd _ HS.out HW.out).mono ?_
    rintro e w1 ⟨rfl, rfl⟩
    go_wp2_with fail
    go_ret2
    exact ⟨rfl, Below.refl _ _⟩
  obtain ⟨hb, hle⟩ := padC_ok hz
  have hb' := inB_iff.1 hb
  rw [show padRt s wd = _ from if_pos hz, hz]
  have HZ := Lib.hid hz
  obtain ⟨m, hm⟩ : ∃ m : Nat, wd - (s.size : Int) = m := ⟨(wd - s.size).toNat, by omega⟩
  have hmm : m ≤ 80 := by omega
  have i0 : IntKind.i64.wrap (wd - (s.size : Int)) = (m : Int) := by rw [IntWalk.i64_in _ (by omega)]; exact hm
  have HN : Hid (padN s wd = m) := Lib.hid (by unfold padN; omega)
  have q1 : ¬ (9223372036854775807 : Int) < ((blanksB m).size : Int) + (s.size : Int) := by rw [blanksB_size]; omega
  have q2 : ¬ (9223372036854775807 : Int) < (s.size : Int) + ((blanksB m).size : Int) := by rw [blanksB_size]; omega
  clear hz hb hb' hm hle
  go_enter Try.func9, Try.ntmps9
  go_wp2_with fail
  refine (l24Code_any s wd _ HS.out HW.out).mono ?_
  rintro e w1 ⟨rfl, rfl⟩
  rw [HZ.out]
  go_wp2_with fail
  refine (l24Blanks_any m _ (by omega)).mono ?_
  rintro e w2 ⟨rfl, hb2⟩
  go_wp2_with fail
  go_ret2
  exact ⟨by rw [HN.out]; rfl, hb2⟩
set_option maxHeartbeats 1000000 in
theorem implPadRight : Calls Try.prog 10 #[.string s, .int .i64 wd] w fun e w' => e = .returned (.tuple #[.string (padRt s wd), .int .i64 (padC s wd)]) ∧ Below w.heap.size w w' := by
  have HS := Lib.hid hs
  have HW := Lib.hid hw
  have wl : (s.size : Int) ≤ 9223372036854775807 := by omega
  clear hs hw
  by_cases hz : padC s wd = 0
  case neg =>
    have d0 : (padC s wd != 0) = true := by rw [bne_iff_ne]; exact hz
    rw [show padRt s wd = ⟨#[]⟩ from if_neg hz]
    clear hz
    go_enter Try.func10, Try.ntmps10
    go_wp2_with fail
    refine (padding_any s wd _ HS.out HW.out).mono ?_
    rintro e w1 ⟨rfl, hb1⟩
    go_wp2_with fail
    go_ret2
    exact ⟨rfl, hb1⟩
  obtain ⟨hb, hle⟩ := padC_ok hz
  have hb' := inB_iff.1 hb
  have hmm : padN s wd ≤ 80 := by unfold padN; omega
  have hv : padRt s wd = _ := if_pos hz
  have hbl : padBl s wd = _ := if_pos hz
  have q1 : ¬ (9223372036854775807 : Int) < ((blanksB (padN s wd)).size : Int) + (s.size : Int) := by rw [blanksB_size]; omega
  have q2 : ¬ (9223372036854775807 : Int) < (s.size : Int) + ((blanksB (padN s wd)).size : Int) := by rw [blanksB_size]; omega
  rw [hv, hz]
  have HZ := Lib.hid hz
  have HB := Lib.hid hbl
  clear hz hb hb' hle hv hbl
  go_enter Try.func10, Try.ntmps10
  go_wp2_with fail
  refine (padding_any s wd _ HS.out HW.out).mono ?_
  rintro e w1 ⟨rfl, hb1⟩
  rw [HZ.out, HB.out]
  go_wp2_with fail
  go_ret2
  exact ⟨rfl, hb1⟩
end
end Go.Proofs.Ytkgkammobogcbaa
