/-
  Numbers and pairs of numbers read, in the program.
-/
import Derived.Test.YtdpmdifdnneinaaDoorSyn
import Derived.Test.YtdpmdifdnneinaaDoorSp1
import Derived.Lib.ConvBytes
namespace Go.Proofs.YtdpmdifdnneinaaDoor
open Go.RowKit
set_option maxRecDepth 100000
set_option linter.unusedVariables false
set_option linter.unusedSimpArgs false
theorem bytes_back (s : ByteArray) : (⟨s.data.toList.toArray⟩ : ByteArray) = s := by simp
theorem parse_below {w w' : World} {T : TypeId} (h : w' = w ∨ ∃ t, w' = Lib.bytesWorld w T t) : Below w.heap.size w w' := by
  rcases h with rfl | ⟨t, rfl⟩
  · exact Below.refl _ _
  · exact ⟨rfl, rfl, rfl, by rw [Lib.bytesWorld_size]; omega, fun k hk => Lib.bytesWorld_at_old _ _ _ k (by omega)⟩
set_option maxHeartbeats 4000000 in
theorem readDec (s : ByteArray) (w : World) (hs : s.size ≤ 1048576) (hA : AllOk w) : Calls Tryd.prog 14 #[.string s] w fun e w' => e = .returned (numR s) ∧ Below w.heap.size w w' := by
  have HA := Lib.hid hA
  obtain ⟨T, hT⟩ : ∃ T : ByteArray, (⟨(bare s.data.toList).toArray⟩ : ByteArray) = T := ⟨_, rfl⟩
  have hTl : T.size = (bare s.data.toList).length := by rw [← hT]; simp [ByteArray.size]
  have HTR : Hid (Calls Tryd.prog 23 #[.string s, .string ⟨#[45]⟩] w fun e w' => e = .returned (.string T) ∧ w' = w) := Lib.hid (by
    have h9 := Shstrings_TrimPrefix s ⟨#[45]⟩ w
    rw [show Lib.trimPrefix s.data.toList (⟨#[45]⟩ : ByteArray).data.toList = bare s.data.toList from rfl, hT] at h9
    exact h9)
  clear hA hT
  by_cases h1 : T.size < 1
  · have HR := Lib.hid (numR_no (s := s) fun n hn => by have := hn.dg.2.2; omega)
    rw [HR.out]
    have d1 : decide ((T.size : Int) < 1) = true := decide_eq_true (by omega)
    clear hTl
    go_enter Tryd.func14, Tryd.ntmps14
    go_wp2_with fail
    refine HTR.out.mono ?_
    rintro e w1 ⟨rfl, rfl⟩
    go_wp2_with fail
    go_ret2
    exact ⟨rfl, Below.refl _ _⟩
  by_cases h2 : 18 < T.size
  · have HR := Lib.hid (numR_no (s := s) fun n hn => by have := hn.2; omega)
    rw [HR.out]
    have d1 : decide ((T.size : Int) < 1) = false := decide_eq_false (by omega)
    have d2 : decide ((18 : Int) < (T.size : Int)) = true := decide_eq_true (by omega)
    clear hTl
    go_enter Tryd.func14, Tryd.ntmps14
    go_wp2_with fail
    refine HTR.out.mono ?_
    rintro e w1 ⟨rfl, rfl⟩
    go_wp2_with fail
    go_ret2
    exact ⟨rfl, Below.refl _ _⟩
  have d1 : decide ((T.size : Int) < 1) = false := decide_eq_false (by omega)
  have d2 : decide ((18 : Int) < (T.size : Int)) = false := decide_eq_false (by omega)
  have hf := parse_few (l := s.data.toList) (by omega)
  have HTL := Lib.hid hTl
  clear hTl
  cases hp : Lib.parseIntB 64 s.data.toList with
  | range => exact absurd hp hf
  | ok n =>
    have hnb : I64 n := by
      have h9 := Lib.parseIntB_bounds hp
      have e63 : (2 : Nat) ^ (64 - 1) = 9223372036854775808 := by decide
      rw [e63] at h9
      unfold I64; omega
    have HPI := Lib.hid (Shstrconv_ParseInt_10_at64_ok s (by omega) n hp w)
    have HD := Lib.hid fun wq (hq : TabOk wq) => Decimal_any n hnb wq hq
    have d3 : (s.toList != s.toList) = false := by simp
    by_cases hd : decB n = s
    · have HR := Lib.hid (numR_yes (s := s) (n := n) ⟨by rw [← hd, decB_list], by have := HTL.out; omega⟩)
      rw [HR.out]
      have HD3 := Lib.hid hd
      clear hp hf hd
      go_enter Tryd.func14, Tryd.ntmps14
      go_wp2_with fail
      refine HTR.out.mono ?_
      rintro e w1 ⟨rfl, rfl⟩
      go_wp2_with fail
      refine HPI.out.mono ?_
      rintro e w2 ⟨rfl, hb2⟩
      have HB2 := Lib.hid (parse_below hb2)
      have HA2 := Lib.hid (HA.out.below HB2.out)
      clear hb2
      go_wp2_with fail
      refine (HD.out _ HA2.out.t).mono ?_
      rintro e w3 ⟨rfl, hb3⟩
      rw [HD3.out]
      have HB3 := Lib.hid (HB2.out.trans (hb3.mono HB2.out.size))
      clear hb3
      go_wp2_with fail
      go_ret2
      exact ⟨rfl, HB3.out⟩
    · have HR := Lib.hid (numR_no (s := s) fun m hm => by
        have e := hm.parse
        rw [hp] at e
        injection e with e
        rw [← e] at hm
        exact hd hm.dec)
      rw [HR.out]
      have g3 : ((decB n).toList == s.toList) = false := by rw [beq_eq_false_iff_ne]; intro e; rw [toL, toL] at e; exact hd (ba_ext e)
      clear hp hf hd
      go_enter Tryd.func14, Tryd.ntmps14
      go_wp2_with fail
      refine HTR.out.mono ?_
      rintro e w1 ⟨rfl, rfl⟩
      go_wp2_with fail
      refine HPI.out.mono ?_
      rintro e w2 ⟨rfl, hb2⟩
      have HB2 := Lib.hid (parse_below hb2)
      have HA2 := Lib.hid (HA.out.below HB2.out)
      clear hb2
      go_wp2_with fail
      refine (HD.out _ HA2.out.t).mono ?_
      rintro e w3 ⟨rfl, hb3⟩
      have HB3 := Lib.hid (HB2.out.trans (hb3.mono HB2.out.size))
      clear hb3
      go_wp2_with fail
      go_ret2
      exact ⟨rfl, HB3.out⟩
  | _ =>
    have HR := Lib.hid (numR_no (s := s) fun n hn => by rw [hn.parse] at hp; cases hp)
    rw [HR.out]
    obtain ⟨hlt, tp, p, hev⟩ := HA.out.s
    have HPI := Lib.hid (Shstrconv_ParseInt_10_at64_syn s (by omega) (fun v h9 => by rw [hp] at h9; cases h9) (fun h9 => by rw [hp] at h9; cases h9) (.iface tp p) w hev (Or.inr ⟨tp, p, rfl⟩))
    clear hp hf hev
    go_enter Tryd.func14, Tryd.ntmps14
    go_wp2_with fail
    refine HTR.out.mono ?_
    rintro e w1 ⟨rfl, rfl⟩
    go_wp2_with fail
    refine HPI.out.mono ?_
    rintro e w2 ⟨N, rfl, hN, hc, hb2⟩
    have HB2 := Lib.hid hb2
    clear hb2 hc hN
    go_wp2_with fail
    go_ret2
    exact ⟨rfl, HB2.out⟩
theorem numT_eq (o : Option Int) : numT o = .tuple #[.int .i64 (o.getD 0), .bool o.isSome] := by cases o <;> rfl
theorem cut_any (s sep : ByteArray) (w : World) (hs : s.size ≤ 1048576) (hA : AllOk w) : Calls Tryd.prog 13 #[.string s, .string sep] w fun e w' => e = .returned (.tuple #[.string ⟨(Lib.cut s.data.toList sep.data.toList).1.toArray⟩, .string ⟨(Lib.cut s.data.toList sep.data.toList).2.1.toArray⟩, .bool (Lib.cut s.data.toList sep.data.toList).2.2]) ∧ Below w.heap.size w w' := by
  obtain ⟨_, mm, hmm⟩ := hA.m
  refine (Shstrings_Cut s sep mm w (by omega) hmm).mono fun e w' ⟨he, n, hn⟩ => ⟨he, ?_⟩
  subst hn
  exact below_drewN (Below.refl _ _) n
theorem cut_sizes (l sep : List UInt8) : (Lib.cut l sep).1.length ≤ l.length ∧ (Lib.cut l sep).2.1.length ≤ l.length := by
  unfold Lib.cut
  split
  · exact ⟨by simp only [List.length_take]; omega, by simp only [List.length_drop]; omega⟩
  · exact ⟨Nat.le_refl _, Nat.zero_le _⟩
set_option maxHeartbeats 4000000 in
theorem readRng (s A B : ByteArray) (o1 o2 : Option Int) (w : World) (hs : s.size ≤ 1048576) (hA : AllOk w) (hA1 : (⟨(Lib.cut s.data.toList [46, 46]).1.toArray⟩ : ByteArray) = A) (hB1 : (⟨(Lib.cut s.data.toList [46, 46]).2.1.toArray⟩ : ByteArray) = B) (h1 : numV A.data.toList = o1) (h2 : numV B.data.toList = o2) :
    Calls Tryd.prog 12 #[.string s] w fun e w' => e = .returned (.tuple #[.int .i64 (o1.getD 0), .int .i64 (o2.getD 0), .bool (o1.isSome && o2.isSome)]) ∧ Below w.heap.size w w' := by
  have HA := Lib.hid hA
  have hz := cut_sizes s.data.toList [46, 46]
  have hsl : s.data.toList.length = s.size := Array.length_toList
  have z1 : A.size ≤ 1048576 := by rw [← hA1]; simp only [ByteArray.size, List.size_toArray]; omega
  have z2 : B.size ≤ 1048576 := by rw [← hB1]; simp only [ByteArray.size, List.size_toArray]; omega
  have HC := Lib.hid (cut_any s ⟨#[46, 46]⟩ w hs hA)
  rw [show (⟨#[46, 46]⟩ : ByteArray).data.toList = [46, 46] from rfl, hA1, hB1] at HC
  have HD1 : Hid (∀ wq, AllOk wq → Calls Tryd.prog 14 #[.string A] wq fun e w' => e = .returned (.tuple #[.int .i64 (o1.getD 0), .bool o1.isSome]) ∧ Below wq.heap.size wq w') := Lib.hid fun wq hq => by
    have := readDec A wq z1 hq
    unfold numR at this
    rw [h1, numT_eq] at this
    exact this
  have HD2 : Hid (∀ wq, AllOk wq → Calls Tryd.prog 14 #[.string B] wq fun e w' => e = .returned (.tuple #[.int .i64 (o2.getD 0), .bool o2.isSome]) ∧ Below wq.heap.size wq w') := Lib.hid fun wq hq => by
    have := readDec B wq z2 hq
    unfold numR at this
    rw [h2, numT_eq] at this
    exact this
  obtain ⟨b0, hb0⟩ : ∃ b0, (Lib.cut s.data.toList [46, 46]).2.2 = b0 := ⟨_, rfl⟩
  rw [hb0] at HC
  obtain ⟨v1, hv1⟩ : ∃ v, o1.getD 0 = v := ⟨_, rfl⟩
  obtain ⟨v2, hv2⟩ : ∃ v, o2.getD 0 = v := ⟨_, rfl⟩
  rw [hv1] at HD1 ⊢
  rw [hv2] at HD2 ⊢
  clear hA hz hsl hA1 hB1 hb0 h1 h2 hv1 hv2
  revert HD1 HD2
  cases o1.isSome <;> cases o2.isSome
  all_goals
    intro HD1 HD2
    go_enter Tryd.func12, Tryd.ntmps12
    go_wp2_with fail
    refine HC.out.mono ?_
    rintro e w1 ⟨rfl, hb1⟩
    have HB1 := Lib.hid hb1
    have HA1 := Lib.hid (HA.out.below hb1)
    clear hb1
    go_wp2_with fail
    refine (HD1.out _ HA1.out).mono ?_
    rintro e w2 ⟨rfl, hb2⟩
    have HB2 := Lib.hid (HB1.out.trans (hb2.mono HB1.out.size))
    have HA2 := Lib.hid (HA1.out.below hb2)
    clear hb2
    go_wp2_with fail
    refine (HD2.out _ HA2.out).mono ?_
    rintro e w3 ⟨rfl, hb3⟩
    have HB3 := Lib.hid (HB2.out.trans (hb3.mono HB2.out.size))
    clear hb3
    go_wp2_with fail
    go_ret3
    exact ⟨rfl, HB3.out⟩
end Go.Proofs.YtdpmdifdnneinaaDoor
