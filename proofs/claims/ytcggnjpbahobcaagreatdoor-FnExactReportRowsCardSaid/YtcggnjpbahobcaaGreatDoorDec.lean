/-
  The decimal form of a number: in the reference and in the program.
-/
import Derived.Test.YtcggnjpbahobcaaGreatDoorBasic
import Derived.Test.YtcggnjpbahobcaaGreatDoorMore
import Derived.Test.YtcggnjpbahobcaaGreatDoorWords
import Derived.Test.YtcggnjpbahobcaaGreatDoorShelf
namespace Go.Proofs.YtcggnjpbahobcaaGreatDoor
open Go.RowKit
set_option maxRecDepth 100000

def dgs (u : Nat) : List UInt8 := if u = 0 then [] else Lib.decDigits u
theorem dgs_pos {u : Nat} (h : u ≠ 0) : dgs u = dgs (u / 10) ++ [UInt8.ofNat (48 + u % 10)] := by
  unfold dgs
  rw [if_neg h, Lib.decDigits]
  by_cases h10 : u < 10
  · rw [dif_pos h10, if_pos (by omega), Nat.mod_eq_of_lt h10]; rfl
  · rw [dif_neg h10, if_neg (by omega)]
def decB (n : Int) : ByteArray := ⟨(Lib.itoa n).toArray⟩
theorem infoU8d : (Tryz.prog.info? 5).map (fun i => (i.zero, i.size, i.bytes)) = some (some (.int .u8 0), 1, 1) := by kernel_rfl

theorem dgs_zero : dgs 0 = [] := rfl
theorem dgs_nil {u : Nat} (h : u ≠ 0) : dgs u ≠ [] := by rw [dgs_pos h]; simp
theorem dgs_dec {u : Nat} (h : u ≠ 0) : dgs u = Lib.decDigits u := if_neg h
theorem digit_cast (u : Nat) : (((UInt8.ofNat (48 + u % 10)).toNat : Nat) : Int) = 48 + (u : Int) % 10 := by
  have h : u % 10 < 10 := Nat.mod_lt _ (by decide)
  rw [UInt8.toNat_ofNat_of_lt' (by show 48 + u % 10 < 256; omega)]
  omega
theorem digits_few {u m N : Nat} (h : u * 10 ^ m ≤ N) (hu : u ≠ 0) (hN : N ≤ 9223372036854775808) : m ≤ 18 := by
  rcases Nat.lt_or_ge m 19 with hm | hm
  · omega
  · have h1 : 10 ^ 19 ≤ 10 ^ m := Nat.pow_le_pow_right (by decide) hm
    have h2 : 1 * 10 ^ m ≤ u * 10 ^ m := Nat.mul_le_mul_right _ (by omega)
    have h3 : (10 : Nat) ^ 19 = 10000000000000000000 := by decide
    omega
theorem digits_next {u m N : Nat} (h : u * 10 ^ m ≤ N) : u / 10 * 10 ^ (1 + m) ≤ N := by
  rw [Nat.pow_add, Nat.pow_one, ← Nat.mul_assoc]
  exact Nat.le_trans (Nat.mul_le_mul_right _ (Nat.div_mul_le_self u 10)) h
set_option maxHeartbeats 2000000 in
theorem l01Dec_pos (N : Nat) (w : World) (h1 : N ≤ 9223372036854775807) : Calls Tryz.prog 28 #[.int .i64 N] w fun e w' => e = .returned (.string (decB N)) ∧ Below w.heap.size w w' := by
  go_enter Tryz.func28, Tryz.ntmps28
  go_wp2_with fail
  go_loopw [3, 4] (fun v i wr => ∃ (u m : Nat) (a' : Option Addr) (c' : Nat) (L : List UInt8), u ≤ N ∧ Hid (u * 10 ^ m ≤ N) ∧ m ≤ 30 ∧ i = .int .i64 u ∧ v = .slice a' m c' ∧ Ow eU 1 wr w.heap.size 5 (.slice a' m c') m L ∧ Hid (dgs u ++ L = dgs N) ∧ Below w.heap.size w wr) (fun _ i _ => (intOf i).natAbs)
  case atStart => exact ⟨N, 0, _, _, [], Nat.le_refl _, by show N * 10 ^ 0 ≤ N; omega, by omega, rfl, rfl, Ow.built _ _ _ _, by show dgs N ++ [] = dgs N; simp, below_built _ _⟩
  case round =>
    obtain ⟨u, m, a', c', L, hu, HP, hm, rfl, rfl, hown, HD, hb⟩ := hrel
    by_cases hu0 : u = 0
    · subst hu0
      have hlen := hown.len eU_len (by decide)
      have hL : L = dgs N := by have := HD.out; rwa [dgs_zero, List.nil_append] at this
      by_cases hN : N = 0
      · subst hN
        have hm0 : m = 0 := by rw [← hlen, hL]; rfl
        subst hm0
        clear hlen hL HD HP
        go_wp2_with fail
        go_ret
        exact ⟨by unfold decB Lib.itoa; rw [if_neg (by decide)]; simp [Lib.decDigits], hb⟩
      · have hm0 : m ≠ 0 := by
          intro e
          rw [e] at hlen
          exact dgs_nil hN (by rw [← hL]; exact List.length_eq_zero_iff.1 hlen)
        have d1 : ((m : Int) == 0) = false := by rw [beq_eq_false_iff_ne]; omega
        have hcv := conv_back (P := Tryz.prog) (src := 62) (dst := 9) (e := 5) (cap := c') (l := L) hlen (hown.rd eU_len (by decide)) Tryz.underlying62 Tryz.underlying5 Tryz.underlying9
        have HV : Hid ((⟨L.toArray⟩ : ByteArray) = decB N) := Lib.hid (by unfold decB Lib.itoa; rw [if_neg (show ¬ (N : Int) < 0 by omega), hL, dgs_dec hN]; rfl)
        clear hlen hL HD HP hm0
        go_wp2_with fail
        go_ret
        exact ⟨by rw [← HV.out]; rfl, hb⟩
    · have d0 : ((u : Int) != 0) = true := by rw [bne_iff_ne]; omega
      have hm18 := digits_few HP.out hu0 (by omega)
      have hone : Ow eU 1 (wr.alloc (.cells #[.int .u8 (48 + (u : Int) % 10)] 5)) wr.heap.size 5 (.slice (some ⟨wr.heap.size, 0, none⟩) 1 1) 1 [UInt8.ofNat (48 + u % 10)] := by
        have := Ow.oneG eU_len wr (UInt8.ofNat (48 + u % 10)) 5
        unfold eU at this ⊢
        rw [digit_cast] at this
        exact this
      have hba : Below wr.heap.size wr (wr.alloc (.cells #[.int .u8 (48 + (u : Int) % 10)] 5)) := (Below.refl _ _).alloc (Nat.le_refl _) _
      have hr := (hown.below hba).rd eU_len (by decide)
      have hlen := hown.len eU_len (by decide)
      have h63 : 1 + m ≤ maxLen := by unfold maxLen; omega
      have hby : (1 + m) * 1 ≤ 140737488355328 := by omega
      obtain ⟨ys, hys⟩ : ∃ ys, [UInt8.ofNat (48 + u % 10)] ++ L = ys := ⟨_, rfl⟩
      have HD2 : Hid (dgs (u / 10) ++ ys = dgs N) := Lib.hid (by rw [← hys, ← List.append_assoc, ← dgs_pos hu0]; exact HD.out)
      have HY := Lib.hid hys
      clear hys
      have HLn := Lib.hid hlen
      have HBA := Lib.hid hba
      have hbs := hba.size
      clear hlen hba hown
      go_wp2_with (at_builtin; refine wpl_apps eU_len (by decide) eU_one _ rfl (.tmp 21) (.tmp 22) 62 rfl 5 (.int .u8 0) 1 rfl Tryz.underlying62 infoU8d wr.heap.size _ 1 _ rfl hone L m HLn.out a' c' rfl hr h63 hby hbs _ HY ?_)
      intro a2 c2 w2 hown2 hb2
      have hb3 := hb.trans ((HBA.out.trans hb2).mono hb.size)
      have hown3 := hown2.mono hb.size
      have HP2 := Lib.hid (digits_next HP.out)
      clear hone hr hown2 hb2 hb HBA hbs h63 hby
      go_wp2_with fail
      go_roundw
      case rel => exact ⟨u / 10, 1 + m, a2, c2, ys, by omega, HP2.out, by omega, by first | rfl | go_num, rfl, hown3, HD2.out, hb3⟩
      case measure => simp [intOf] <;> omega
set_option maxHeartbeats 2000000 in
theorem l01Dec_neg (N : Nat) (w : World) (h1 : N ≤ 9223372036854775808) (h0 : N ≠ 0) : Calls Tryz.prog 28 #[.int .i64 (-(N : Int))] w fun e w' => e = .returned (.string (decB (-(N : Int)))) ∧ Below w.heap.size w w' := by
  go_enter Tryz.func28, Tryz.ntmps28
  go_wp2_with fail
  go_loopw [3, 4] (fun v i wr => ∃ (u m : Nat) (a' : Option Addr) (c' : Nat) (L : List UInt8), u ≤ N ∧ Hid (u * 10 ^ m ≤ N) ∧ m ≤ 30 ∧ i = .int .i64 (-(u : Int)) ∧ v = .slice a' m c' ∧ Ow eU 1 wr w.heap.size 5 (.slice a' m c') m L ∧ Hid (dgs u ++ L = dgs N) ∧ Below w.heap.size w wr) (fun _ i _ => (intOf i).natAbs)
  case atStart => exact ⟨N, 0, _, _, [], Nat.le_refl _, by show N * 10 ^ 0 ≤ N; omega, by omega, rfl, rfl, Ow.built _ _ _ _, by show dgs N ++ [] = dgs N; simp, below_built _ _⟩
  case round =>
    obtain ⟨u, m, a', c', L, hu, HP, hm, rfl, rfl, hown, HD, hb⟩ := hrel
    by_cases hu0 : u = 0
    · subst hu0
      have hlen := hown.len eU_len (by decide)
      have hL : L = dgs N := by have := HD.out; rwa [dgs_zero, List.nil_append] at this
      have hm0 : m ≠ 0 := by
        intro e
        rw [e] at hlen
        exact dgs_nil h0 (by rw [← hL]; exact List.length_eq_zero_iff.1 hlen)
      have d1 : ((m : Int) == 0) = false := by rw [beq_eq_false_iff_ne]; omega
      have hcv := conv_back (P := Tryz.prog) (src := 62) (dst := 9) (e := 5) (cap := c') (l := L) hlen (hown.rd eU_len (by decide)) Tryz.underlying62 Tryz.underlying5 Tryz.underlying9
      have HV : Hid ((⟨#[45]⟩ : ByteArray) ++ ⟨L.toArray⟩ = decB (-(N : Int))) := Lib.hid (by
        unfold decB Lib.itoa
        rw [if_pos (show -(N : Int) < 0 by omega), hL, dgs_dec h0, show (-(N : Int)).natAbs = N by omega]
        apply ByteArray.ext
        simp [ByteArray.data_append])
      have q1 : ¬ (9223372036854775807 : Int) < 1 + ((⟨L.toArray⟩ : ByteArray).size : Int) := by
        have : (⟨L.toArray⟩ : ByteArray).size = m := by simpa [ByteArray.size] using hlen
        rw [this]; omega
      have q2 : ¬ (9223372036854775807 : Int) < ((⟨#[45]⟩ : ByteArray).size : Int) + ((⟨L.toArray⟩ : ByteArray).size : Int) := by
        have : (⟨L.toArray⟩ : ByteArray).size = m := by simpa [ByteArray.size] using hlen
        rw [this, show (⟨#[45]⟩ : ByteArray).size = 1 from rfl]; omega
      have d2 : -(N : Int) < 0 := by omega
      clear hlen hL HD HP hm0
      generalize (⟨L.toArray⟩ : ByteArray) = LB at *
      go_wp2_with fail
      go_ret
      exact ⟨by rw [← HV.out]; rfl, hb⟩
    · have d0 : (-(u : Int) != 0) = true := by rw [bne_iff_ne]; omega
      by_cases h9 : u % 10 = 0
      case pos =>
        have e0 : (u : Int) % 10 = 0 := by omega
        have hm18 := digits_few HP.out hu0 (by omega)
        have hone : Ow eU 1 (wr.alloc (.cells #[.int .u8 (48)] 5)) wr.heap.size 5 (.slice (some ⟨wr.heap.size, 0, none⟩) 1 1) 1 [UInt8.ofNat (48 + u % 10)] := by
          have := Ow.oneG eU_len wr (UInt8.ofNat (48 + u % 10)) 5
          unfold eU at this ⊢
          rw [digit_cast, e0] at this
          exact this
        have hba : Below wr.heap.size wr (wr.alloc (.cells #[.int .u8 (48)] 5)) := (Below.refl _ _).alloc (Nat.le_refl _) _
        have hr := (hown.below hba).rd eU_len (by decide)
        have hlen := hown.len eU_len (by decide)
        have h63 : 1 + m ≤ maxLen := by unfold maxLen; omega
        have hby : (1 + m) * 1 ≤ 140737488355328 := by omega
        obtain ⟨ys, hys⟩ : ∃ ys, [UInt8.ofNat (48 + u % 10)] ++ L = ys := ⟨_, rfl⟩
        have HD2 : Hid (dgs (u / 10) ++ ys = dgs N) := Lib.hid (by rw [← hys, ← List.append_assoc, ← dgs_pos hu0]; exact HD.out)
        have HY := Lib.hid hys
        clear hys
        have HLn := Lib.hid hlen
        have HBA := Lib.hid hba
        have hbs := hba.size
        clear hlen hba hown
        go_wp2_with (at_builtin; refine wpl_apps eU_len (by decide) eU_one _ rfl (.tmp 21) (.tmp 22) 62 rfl 5 (.int .u8 0) 1 rfl Tryz.underlying62 infoU8d wr.heap.size _ 1 _ rfl hone L m HLn.out a' c' rfl hr h63 hby hbs _ HY ?_)
        intro a2 c2 w2 hown2 hb2
        have hb3 := hb.trans ((HBA.out.trans hb2).mono hb.size)
        have hown3 := hown2.mono hb.size
        have HP2 := Lib.hid (digits_next HP.out)
        clear hone hr hown2 hb2 hb HBA hbs h63 hby
        go_wp2_with fail
        go_roundw
        case rel => exact ⟨u / 10, 1 + m, a2, c2, ys, by omega, HP2.out, by omega, by first | rfl | go_num, rfl, hown3, HD2.out, hb3⟩
        case measure => simp [intOf] <;> omega
      have e0 : ¬ (u : Int) % 10 ≤ 0 := by omega
      have e1 : (0 : Int) < (u : Int) % 10 := by omega
      have hm18 := digits_few HP.out hu0 (by omega)
      have hone : Ow eU 1 (wr.alloc (.cells #[.int .u8 (48 + (u : Int) % 10)] 5)) wr.heap.size 5 (.slice (some ⟨wr.heap.size, 0, none⟩) 1 1) 1 [UInt8.ofNat (48 + u % 10)] := by
        have := Ow.oneG eU_len wr (UInt8.ofNat (48 + u % 10)) 5
        unfold eU at this ⊢
        rw [digit_cast] at this
        exact this
      have hba : Below wr.heap.size wr (wr.alloc (.cells #[.int .u8 (48 + (u : Int) % 10)] 5)) := (Below.refl _ _).alloc (Nat.le_refl _) _
      have hr := (hown.below hba).rd eU_len (by decide)
      have hlen := hown.len eU_len (by decide)
      have h63 : 1 + m ≤ maxLen := by unfold maxLen; omega
      have hby : (1 + m) * 1 ≤ 140737488355328 := by omega
      obtain ⟨ys, hys⟩ : ∃ ys, [UInt8.ofNat (48 + u % 10)] ++ L = ys := ⟨_, rfl⟩
      have HD2 : Hid (dgs (u / 10) ++ ys = dgs N) := Lib.hid (by rw [← hys, ← List.append_assoc, ← dgs_pos hu0]; exact HD.out)
      have HY := Lib.hid hys
      clear hys
      have HLn := Lib.hid hlen
      have HBA := Lib.hid hba
      have hbs := hba.size
      clear hlen hba hown
      go_wp2_with (at_builtin; refine wpl_apps eU_len (by decide) eU_one _ rfl (.tmp 21) (.tmp 22) 62 rfl 5 (.int .u8 0) 1 rfl Tryz.underlying62 infoU8d wr.heap.size _ 1 _ rfl hone L m HLn.out a' c' rfl hr h63 hby hbs _ HY ?_)
      intro a2 c2 w2 hown2 hb2
      have hb3 := hb.trans ((HBA.out.trans hb2).mono hb.size)
      have hown3 := hown2.mono hb.size
      have HP2 := Lib.hid (digits_next HP.out)
      clear hone hr hown2 hb2 hb HBA hbs h63 hby
      go_wp2_with fail
      go_roundw
      case rel => exact ⟨u / 10, 1 + m, a2, c2, ys, by omega, HP2.out, by omega, by first | rfl | go_num, rfl, hown3, HD2.out, hb3⟩
      case measure => simp [intOf] <;> omega
end Go.Proofs.YtcggnjpbahobcaaGreatDoor
