/-
  Texts cut at a byte, numbers read, in the reference.
-/
import Derived.Test.YtdpmdifdnneinaaDoorNumC
import Derived.Test.YtdpmdifdnneinaaDoorRqP
import Derived.Test.YtdpmdifdnneinaaDoorApp0
import Derived.Test.YtdpmdifdnneinaaDoorMore
import Derived.Test.YtdpmdifdnneinaaDoorWords
import Derived.Test.YtdpmdifdnneinaaDoorDec2
import Derived.Deep.CutRange
import Derived.Deep.Light
namespace Go.Proofs.YtdpmdifdnneinaaDoor
open Go.RowKit
set_option maxRecDepth 100000
set_option linter.unusedVariables false
set_option linter.unusedSimpArgs false
theorem infoSt : (Tryd.prog.info? 9).map (fun i => (i.zero, i.size, i.bytes)) = some (some (.string ByteArray.empty), 1, 16) := by kernel_rfl
theorem nilF {s : ByteArray} (h : s.size = 0) : (s.toList == ([] : List UInt8)) = true ∧ s.toList.isEmpty = true ∧ s.toList = [] := by
  have h0 : s.toList = [] := toList_nil h
  exact ⟨by rw [h0]; rfl, by rw [h0]; rfl, h0⟩
theorem consF {s : ByteArray} (h : 0 < s.size) : (s.toList == ([] : List UInt8)) = false ∧ s.toList.isEmpty = false ∧ ¬ s.toList = [] := by
  have h0 : s.toList.isEmpty = false := toList_ne h
  have h1 : ¬ s.toList = [] := fun e => by rw [e] at h0; cases h0
  exact ⟨by rw [beq_eq_false_iff_ne]; exact h1, h0, h1⟩
set_option maxHeartbeats 2000000 in
theorem splitC_any (c : UInt8) (s : ByteArray) (w : World) (hs : s.size ≤ 1048576) : Calls Tryd.prog 7 #[.string s, .int .u8 (c.toNat : Nat)] w fun e w' => ∃ a' n' c', e = .returned (.slice a' n' c') ∧ n' ≤ 1048577 ∧ Ow eS 1 w' w.heap.size 9 (.slice a' n' c') n' (cutC c s) ∧ Below w.heap.size w w' := by
  have hbb := below_built w 9
  have hbo := Ow.built eS 1 w 9
  have HBB := Lib.hid hbb
  have HBO := Lib.hid hbo
  clear hbb hbo
  go_enter Tryd.func7, Tryd.ntmps7
  go_wp2_with fail
  go_loopw [5, 6, 7] (fun o q i wr => ∃ (f k m : Nat) (a2 : Option Addr) (c2 : Nat) (L : List ByteArray), f ≤ k ∧ k ≤ s.size ∧ m ≤ k ∧ q = .int .i64 f ∧ i = .int .i64 k ∧ o = .slice a2 m c2 ∧ Ow eS 1 wr w.heap.size 9 (.slice a2 m c2) m L ∧ Hid (L ++ cutC c (s.extract f s.size) = cutC c s ∧ ∀ j (hj : j < s.size), f ≤ j → j < k → s[j]'hj ≠ c) ∧ Below w.heap.size w wr) (fun _ _ i _ => s.size - (intOf i).toNat)
  case atStart => exact ⟨0, 0, 0, _, _, [], Nat.le_refl _, Nat.zero_le _, Nat.le_refl _, rfl, rfl, rfl, HBO.out, Lib.hid ⟨by rw [cutC_full]; rfl, fun j _ _ h => absurd h (by omega)⟩, HBB.out⟩
  case round =>
    obtain ⟨f, k, m, a2, c2, L, hfk, hk, hmk, rfl, rfl, rfl, ho, HI, hb⟩ := hrel
    have h63 : m + 1 ≤ maxLen := by unfold maxLen; omega
    have hby : (m + 1) * 16 ≤ 140737488355328 := by omega
    by_cases hlt : k < s.size
    · by_cases h32 : (s[k]'hlt).toNat = c.toNat
      · have d1 : (((s[k]'hlt).toNat : Int) == (c.toNat : Int)) = true := by rw [h32, beq_self_eq_true]
        have e32 : s[k]'hlt = c := UInt8.toNat_inj.1 h32
        have HY : Hid (L ++ [s.extract f k] = L ++ [s.extract f k]) := Lib.hid rfl
        have HJ : Hid ((L ++ [s.extract f k]) ++ cutC c (s.extract (k + 1) s.size) = cutC c s ∧ ∀ j (hj : j < s.size), k + 1 ≤ j → j < k + 1 → s[j]'hj ≠ c) := Lib.hid ⟨by
          rw [← HI.out.1, cutC_yes hfk hlt HI.out.2 e32]; simp, fun j _ h1 h2 => absurd h1 (by omega)⟩
        clear h32 e32
        go_wp2_with (at_builtin; refine wpl_app eS_len (by decide) _ rfl (.tmp 20) (.tmp 25) 28 rfl 9 (.string ByteArray.empty) 16 rfl Tryd.underlying28 infoSt w.heap.size _ m _ rfl wr _ 9 rfl ho (s.extract f k) rfl rfl (eS_one _) h63 hby hb.size _ HY ?_)
        intro a4 c4 w6 ho6 hb6 _
        have hb7 := hb.trans hb6
        clear ho hb hb6 d1
        go_wp2_with fail
        go_roundw
        case rel => exact ⟨k + 1, k + 1, m + 1, a4, c4, _, by omega, by omega, by omega, by go_num, by go_num, by simp, ho6, HJ, hb7⟩
        case measure => simp [intOf]; omega
      · have d1 : (((s[k]'hlt).toNat : Int) == (c.toNat : Int)) = false := by rw [beq_eq_false_iff_ne]; omega
        have HJ : Hid (L ++ cutC c (s.extract f s.size) = cutC c s ∧ ∀ j (hj : j < s.size), f ≤ j → j < k + 1 → s[j]'hj ≠ c) := Lib.hid ⟨HI.out.1, fun j hj h1 h2 => by
          by_cases hjk : j < k
          · exact HI.out.2 j hj h1 hjk
          · obtain rfl : j = k := by omega
            exact fun e => h32 (by rw [e])⟩
        clear h32
        go_wp2_with fail
        go_roundw
        case rel => exact ⟨f, k + 1, m, a2, c2, L, by omega, by omega, by omega, rfl, by go_num, rfl, ho, HJ, hb⟩
        case measure => simp [intOf]; omega
    · obtain rfl : k = s.size := by omega
      have HY : Hid (L ++ [s.extract f s.size] = cutC c s) := Lib.hid (by rw [← HI.out.1, cutC_no fun j hj h1 => HI.out.2 j hj h1 hj])
      go_wp2_with (at_builtin; refine wpl_app eS_len (by decide) _ rfl (.tmp 29) (.tmp 33) 28 rfl 9 (.string ByteArray.empty) 16 rfl Tryd.underlying28 infoSt w.heap.size _ m _ rfl wr _ 9 rfl ho (s.extract f s.size) rfl rfl (eS_one _) h63 hby hb.size _ HY ?_)
      intro a4 c4 w6 ho6 hb6 _
      have hb7 := hb.trans hb6
      clear ho hb hb6
      go_wp2_with fail
      go_ret
      exact ⟨a4, m + 1, c4, rfl, by omega, ho6, hb7⟩
def numT : Option Int → Value
  | some n => .tuple #[.int .i64 n, .bool true]
  | none => .tuple #[.int .i64 0, .bool false]
noncomputable def numR (s : ByteArray) : Value := numT (numV s.data.toList)
theorem numR_no {s : ByteArray} (h : ∀ n, ¬ NumQ s.data.toList n) : numR s = .tuple #[.int .i64 0, .bool false] := by
  unfold numR; rw [numV_none h]; rfl
theorem numR_yes {s : ByteArray} {n : Int} (h : NumQ s.data.toList n) : numR s = .tuple #[.int .i64 n, .bool true] := by
  unfold numR; rw [numV_some h]; rfl
theorem toL (s : ByteArray) : s.toList = s.data.toList := ByteArray.toList_eq s
/-- the first digits' number -/
def dgK (T : ByteArray) (k : Nat) : Nat := dgV 0 (T.data.toList.take k)
theorem dgK_step {T : ByteArray} {k : Nat} (h : k < T.size) : dgK T (k + 1) = dgK T k * 10 + ((T[k]'h).toNat - 48) := by
  unfold dgK
  have hl : k < T.data.toList.length := by rw [Array.length_toList]; exact h
  rw [List.take_succ_eq_append_getElem hl, dgV_app]
  rfl
theorem dgK_lt {T : ByteArray} {k : Nat} (hk : k ≤ 18) (hT : k ≤ T.size) (h : ∀ j (hj : j < T.size), j < k → isDg (T[j]'hj)) : dgK T k < 1000000000000000000 := by
  have hlen : T.data.toList.length = T.size := Array.length_toList
  have h1 := dgV_lt (T.data.toList.take k) 0 fun b hb => by
    obtain ⟨j, hj, rfl⟩ := List.mem_iff_getElem.1 hb
    rw [List.length_take] at hj
    rw [List.getElem_take]
    exact h j (by omega) (by omega)
  have h2 := pow18 (n := (T.data.toList.take k).length) (by rw [List.length_take]; omega)
  unfold dgK
  omega
theorem dgK_lt17 {T : ByteArray} {k : Nat} (hk : k ≤ 17) (hT : k ≤ T.size) (h : ∀ j (hj : j < T.size), j < k → isDg (T[j]'hj)) : dgK T k < 100000000000000000 := by
  have hlen : T.data.toList.length = T.size := Array.length_toList
  have h1 := dgV_lt (T.data.toList.take k) 0 fun b hb => by
    obtain ⟨j, hj, rfl⟩ := List.mem_iff_getElem.1 hb
    rw [List.length_take] at hj
    rw [List.getElem_take]
    exact h j (by omega) (by omega)
  have h2 : 10 ^ (T.data.toList.take k).length ≤ 10 ^ 17 := Nat.pow_le_pow_right (by decide) (by rw [List.length_take]; omega)
  have h3 : (10 : Nat) ^ 17 = 100000000000000000 := by decide
  unfold dgK
  omega
theorem dgK_all (T : ByteArray) : dgK T T.size = dgV 0 T.data.toList := by
  unfold dgK
  rw [List.take_of_length_le (by rw [Array.length_toList]; exact Nat.le_refl _)]
/-- what is read: no number -/
structure BareT (s T : ByteArray) (neg : Bool) : Prop where
  e : T.data.toList = bare s.data.toList
  n : neg = decide (T.size < s.size)
  s0 : neg = true → s.data.toList = 45 :: T.data.toList
  s1 : neg = false → s.data.toList = T.data.toList
theorem BareT.no_len {s T : ByteArray} {neg : Bool} (h : BareT s T neg) (hl : T.size < 1 ∨ 18 < T.size) : ∀ n, ¬ NumQ s.data.toList n := fun n hn => by
  have h1 := hn.dg.2.2
  have h2 := hn.2
  rw [← h.e, Array.length_toList] at h1 h2
  have e : T.data.size = T.size := rfl
  omega
theorem BareT.no_dig {s T : ByteArray} {neg : Bool} (h : BareT s T neg) {k : Nat} (hk : k < T.size) (hd : ¬ isDg (T[k]'hk)) : ∀ n, ¬ NumQ s.data.toList n := fun n hn => by
  refine hd (hn.dg.1 _ ?_)
  rw [← h.e]
  exact List.mem_iff_getElem.2 ⟨k, by rw [Array.length_toList]; exact hk, rfl⟩
theorem BareT.num {s T : ByteArray} {neg : Bool} (h : BareT s T neg) (hl : T.size ≤ 18) {n : Int} (hn : n = if neg = true then -(dgK T T.size : Int) else (dgK T T.size : Int)) (hd : ∀ j (hj : j < T.size), isDg (T[j]'hj)) :
    (decB n = s → NumQ s.data.toList n) ∧ (decB n ≠ s → ∀ m, ¬ NumQ s.data.toList m) := by
  refine ⟨fun e => ⟨by rw [← e, decB_list], by rw [← h.e, Array.length_toList]; exact hl⟩, fun e m hm => e ?_⟩
  have h2 := hm.dg.2.1
  rw [← h.e, ← dgK_all] at h2
  have key : m = n := by
    rw [hn]
    cases neg with
    | true =>
      rw [if_pos rfl]
      have h3 := hm.1
      rw [h.s0 rfl] at h3
      unfold Lib.itoa at h3
      split at h3
      · omega
      · exact absurd h3 (no45 (dec_dg _ _ (Nat.lt_succ_self _)).1 _)
    | false =>
      rw [if_neg (by simp)]
      have h3 := hm.1
      rw [h.s1 rfl] at h3
      have hdd : ∀ b ∈ T.data.toList, isDg b := fun b hb => by
        obtain ⟨j, hj, rfl⟩ := List.mem_iff_getElem.1 hb
        rw [Array.length_toList] at hj
        exact hd j hj
      unfold Lib.itoa at h3
      split at h3
      · exact absurd h3.symm (no45 hdd _)
      · omega
  rw [← key]
  exact hm.dec
theorem isDg_iff (b : UInt8) : digB b.toNat = true ↔ isDg b := by
  unfold digB isDg
  simp
set_option maxHeartbeats 4000000 in
theorem number_any (s : ByteArray) (w : World) (hs : s.size ≤ 1048576) : Calls Tryd.prog 9 #[.string s] w fun e w' => e = .returned (numR s) ∧ Below w.heap.size w w' := by
  have key : ∀ (T : ByteArray) (neg : Bool), BareT s T neg → (neg = true → 0 < s.size ∧ (∀ h0 : 0 < s.size, s[0]'h0 = 45) ∧ s.extract 1 s.size = T) → (neg = false → s = T ∧ ∀ h0 : 0 < s.size, s[0]'h0 ≠ 45) → Calls Tryd.prog 9 #[.string s] w fun e w' => e = .returned (numR s) ∧ Below w.heap.size w w' := by
    intro T neg hT hn hp
    have HT := Lib.hid hT
    cases neg with
    | true =>
      obtain ⟨h0, h45, hx⟩ := hn rfl
      have HX := Lib.hid hx
      have h45' := h45 h0
      have f45 : (((s[0]'h0).toNat : Int) == 45) = true := by rw [h45']; rfl
      have hTs : T.size + 1 = s.size := by rw [← hx, ByteArray.size_extract]; omega
      obtain ⟨e1, e2, e3⟩ := consF (s := s) h0
      have hi : (1 : Int) ≤ (s.size : Nat) := by omega
      have hi2 : 1 ≤ s.size := by omega
      clear hn hp hT hx h45 h45'
      by_cases hl : T.size < 1 ∨ 18 < T.size
      · have HR := Lib.hid (numR_no (HT.out.no_len hl))
        rw [HR.out]
        by_cases hl1 : T.size < 1
        · have g1 : decide ((T.size : Int) < 1) = true := decide_eq_true (by omega)
          go_enter Tryd.func9, Tryd.ntmps9
          go_upto_region 4 with (fail)
          rw [HX.out]
          go_wp2_with fail
          go_ret2
          exact ⟨rfl, Below.refl _ _⟩
        · have g1 : decide ((T.size : Int) < 1) = false := decide_eq_false (by omega)
          have g2 : decide ((18 : Int) < (T.size : Int)) = true := decide_eq_true (by omega)
          go_enter Tryd.func9, Tryd.ntmps9
          go_upto_region 4 with (fail)
          rw [HX.out]
          go_wp2_with fail
          go_ret2
          exact ⟨rfl, Below.refl _ _⟩
      · have hl1 : 1 ≤ T.size := by omega
        have hl2 : T.size ≤ 18 := by omega
        have g1 : decide ((T.size : Int) < 1) = false := decide_eq_false (by omega)
        have g2 : decide ((18 : Int) < (T.size : Int)) = false := decide_eq_false (by omega)
        go_enter Tryd.func9, Tryd.ntmps9
        go_upto_region 4 with (fail)
        rw [HX.out]
        clear g1 g2 f45 e1 e2 e3
        go_wp2_with fail
        go_loopw [5, 6] (fun nv iv wr => ∃ k : Nat, k ≤ T.size ∧ iv = .int .i64 k ∧ nv = .int .i64 (dgK T k : Nat) ∧ Hid (∀ j (hj : j < T.size), j < k → isDg (T[j]'hj)) ∧ w = wr) (fun _ iv _ => T.size - (intOf iv).toNat)
        case atStart => exact ⟨0, Nat.zero_le _, rfl, rfl, Lib.hid fun j _ h => absurd h (by omega), rfl⟩
        case round =>
          obtain ⟨k, hk, rfl, rfl, HD, rfl⟩ := hrel
          have hv := dgK_lt (Nat.le_trans hk hl2) hk HD.out
          by_cases hlt : k < T.size
          · cases hdg : digB (T[k]'hlt).toNat with
            | false =>
              have HR := Lib.hid (numR_no (HT.out.no_dig hlt (fun h => by rw [(isDg_iff _).2 h] at hdg; cases hdg)))
              have HG := Lib.hid hdg
              clear hdg
              go_wp2_with fail
              refine (l01Digit_any _ _).mono ?_
              rintro e wz ⟨rfl, rfl⟩
              rw [HG.out]
              go_wp2_with fail
              go_ret2
              exact ⟨by rw [HR.out]; rfl, Below.refl _ _⟩
            | true =>
              have hv7 := dgK_lt17 (show k ≤ 17 by omega) hk HD.out
              have hd := (isDg_iff _).1 hdg
              have HG := Lib.hid hdg
              have HD2 : Hid (∀ j (hj : j < T.size), j < k + 1 → isDg (T[j]'hj)) := Lib.hid fun j hj h => by
                by_cases hjk : j < k
                · exact HD.out j hj hjk
                · obtain rfl : j = k := by omega
                  exact hd
              have hst := dgK_step hlt
              unfold isDg at hd
              obtain ⟨c, hc⟩ : ∃ c, (T[k]'hlt).toNat = c := ⟨_, rfl⟩
              rw [hc] at hd hst
              have HC := Lib.hid hc
              have u1 : IntKind.u8.wrap ((c : Int) - 48) = ((c - 48 : Nat) : Int) := by rw [IntKind.wrap_u8]; omega
              have u1' : ((c : Int) - 48) % 256 = ((c - 48 : Nat) : Int) := by omega
              have u2 : IntKind.i64.wrap ((c - 48 : Nat) : Int) = ((c - 48 : Nat) : Int) := IntWalk.i64_in _ (by omega)
              have u3 : IntKind.i64.wrap (10 * (dgK T k : Int)) = 10 * (dgK T k : Int) := IntWalk.i64_in _ (by omega)
              have HN : Hid (10 * (dgK T k : Int) + (((T[k]'hlt).toNat : Int) - 48) % 256 = (dgK T (k + 1) : Nat)) := Lib.hid (by rw [hst, hc]; omega)
              clear hdg hc hst
              go_wp2_with fail
              refine (l01Digit_any _ _).mono ?_
              rintro e wz ⟨rfl, rfl⟩
              rw [HG.out]
              go_wp2_with fail
              go_roundw
              case rel => exact ⟨k + 1, by omega, by go_num, congrArg (Value.int .i64) HN.out, HD2, by trivial⟩
              case measure => simp [intOf]; omega
          · obtain rfl : k = T.size := by omega
            obtain ⟨hyes, hno⟩ := HT.out.num hl2 rfl (fun j hj => HD.out j hj hj)
            have g4 : decide ((T.size : Int) < (s.size : Int)) = true := decide_eq_true (by omega)
            have hyes' : decB (-(dgK T T.size : Nat) : Int) = s → NumQ s.data.toList (-(dgK T T.size : Nat) : Int) := hyes
            have hno' : decB (-(dgK T T.size : Nat) : Int) ≠ s → ∀ m, ¬ NumQ s.data.toList m := hno
            clear hyes hno
            obtain ⟨n, hn⟩ : ∃ n, (-(dgK T T.size : Nat) : Int) = n := ⟨_, rfl⟩
            have hnb : I64 n := by unfold I64; omega
            rw [hn] at hyes' hno'
            have HNN := Lib.hid hn
            by_cases hd : decB n = s
            · have HR := Lib.hid (numR_yes (hyes' hd))
              have HD3 := Lib.hid hd
              clear hyes' hno' hd
              have g3 : (s.toList != s.toList) = false := by simp
              go_wp2_with fail
              try rw [HNN.out]
              refine (l01Dec_any n hnb _).mono ?_
              rintro e wz ⟨rfl, hb⟩
              rw [HD3.out]
              go_wp2_with fail
              go_ret2
              exact ⟨congrArg Ending.returned HR.out.symm, hb⟩
            · have HR := Lib.hid (numR_no (hno' hd))
              have g3 : ((decB n).toList == s.toList) = false := by rw [beq_eq_false_iff_ne]; intro e; rw [toL, toL] at e; exact hd (ba_ext e)
              clear hyes' hno' hd
              go_wp2_with fail
              try rw [HNN.out]
              refine (l01Dec_any n hnb _).mono ?_
              rintro e wz ⟨rfl, hb⟩
              go_wp2_with fail
              go_ret2
              exact ⟨congrArg Ending.returned HR.out.symm, hb⟩
    | false =>
      obtain ⟨hx, h45⟩ := hp rfl
      clear hn hp hT
      subst hx
      by_cases hl : s.size < 1 ∨ 18 < s.size
      · have HR := Lib.hid (numR_no (HT.out.no_len hl))
        rw [HR.out]
        by_cases hl1 : s.size < 1
        · have g1 : decide ((s.size : Int) < 1) = true := decide_eq_true (by omega)
          obtain ⟨e1, e2, e3⟩ := nilF (s := s) (by omega)
          go_enter Tryd.func9, Tryd.ntmps9
          go_upto_region 4 with (fail)
          go_wp2_with fail
          go_ret2
          exact ⟨rfl, Below.refl _ _⟩
        · have g1 : decide ((s.size : Int) < 1) = false := decide_eq_false (by omega)
          have g2 : decide ((18 : Int) < (s.size : Int)) = true := decide_eq_true (by omega)
          obtain ⟨e1, e2, e3⟩ := consF (s := s) (by omega)
          have h0 : 0 < s.size := by omega
          have f45 : (((s[0]'h0).toNat : Int) == 45) = false := by rw [beq_eq_false_iff_ne]; intro e; exact h45 h0 (UInt8.toNat_inj.1 (by have e5 : (45 : UInt8).toNat = 45 := rfl; omega))
          go_enter Tryd.func9, Tryd.ntmps9
          go_upto_region 4 with (fail)
          go_wp2_with fail
          go_ret2
          exact ⟨rfl, Below.refl _ _⟩
      · have hl1 : 1 ≤ s.size := by omega
        have hl2 : s.size ≤ 18 := by omega
        have g1 : decide ((s.size : Int) < 1) = false := decide_eq_false (by omega)
        have g2 : decide ((18 : Int) < (s.size : Int)) = false := decide_eq_false (by omega)
        obtain ⟨e1, e2, e3⟩ := consF (s := s) (by omega)
        have h0 : 0 < s.size := by omega
        have f45 : (((s[0]'h0).toNat : Int) == 45) = false := by rw [beq_eq_false_iff_ne]; intro e; exact h45 h0 (UInt8.toNat_inj.1 (by have e5 : (45 : UInt8).toNat = 45 := rfl; omega))
        go_enter Tryd.func9, Tryd.ntmps9
        go_upto_region 4 with (fail)
        clear g1 g2 f45 e1 e2 e3
        go_wp2_with fail
        go_loopw [5, 6] (fun nv iv wr => ∃ k : Nat, k ≤ s.size ∧ iv = .int .i64 k ∧ nv = .int .i64 (dgK s k : Nat) ∧ Hid (∀ j (hj : j < s.size), j < k → isDg (s[j]'hj)) ∧ w = wr) (fun _ iv _ => s.size - (intOf iv).toNat)
        case atStart => exact ⟨0, Nat.zero_le _, rfl, rfl, Lib.hid fun j _ h => absurd h (by omega), rfl⟩
        case round =>
          obtain ⟨k, hk, rfl, rfl, HD, rfl⟩ := hrel
          have hv := dgK_lt (Nat.le_trans hk hl2) hk HD.out
          by_cases hlt : k < s.size
          · cases hdg : digB (s[k]'hlt).toNat with
            | false =>
              have HR := Lib.hid (numR_no (HT.out.no_dig hlt (fun h => by rw [(isDg_iff _).2 h] at hdg; cases hdg)))
              have HG := Lib.hid hdg
              clear hdg
              go_wp2_with fail
              refine (l01Digit_any _ _).mono ?_
              rintro e wz ⟨rfl, rfl⟩
              rw [HG.out]
              go_wp2_with fail
              go_ret2
              exact ⟨by rw [HR.out]; rfl, Below.refl _ _⟩
            | true =>
              have hv7 := dgK_lt17 (show k ≤ 17 by omega) hk HD.out
              have hd := (isDg_iff _).1 hdg
              have HG := Lib.hid hdg
              have HD2 : Hid (∀ j (hj : j < s.size), j < k + 1 → isDg (s[j]'hj)) := Lib.hid fun j hj h => by
                by_cases hjk : j < k
                · exact HD.out j hj hjk
                · obtain rfl : j = k := by omega
                  exact hd
              have hst := dgK_step hlt
              unfold isDg at hd
              obtain ⟨c, hc⟩ : ∃ c, (s[k]'hlt).toNat = c := ⟨_, rfl⟩
              rw [hc] at hd hst
              have HC := Lib.hid hc
              have u1 : IntKind.u8.wrap ((c : Int) - 48) = ((c - 48 : Nat) : Int) := by rw [IntKind.wrap_u8]; omega
              have u1' : ((c : Int) - 48) % 256 = ((c - 48 : Nat) : Int) := by omega
              have u2 : IntKind.i64.wrap ((c - 48 : Nat) : Int) = ((c - 48 : Nat) : Int) := IntWalk.i64_in _ (by omega)
              have u3 : IntKind.i64.wrap (10 * (dgK s k : Int)) = 10 * (dgK s k : Int) := IntWalk.i64_in _ (by omega)
              have HN : Hid (10 * (dgK s k : Int) + (((s[k]'hlt).toNat : Int) - 48) % 256 = (dgK s (k + 1) : Nat)) := Lib.hid (by rw [hst, hc]; omega)
              clear hdg hc hst
              go_wp2_with fail
              refine (l01Digit_any _ _).mono ?_
              rintro e wz ⟨rfl, rfl⟩
              rw [HG.out]
              go_wp2_with fail
              go_roundw
              case rel => exact ⟨k + 1, by omega, by go_num, congrArg (Value.int .i64) HN.out, HD2, by trivial⟩
              case measure => simp [intOf]; omega
          · obtain rfl : k = s.size := by omega
            obtain ⟨hyes, hno⟩ := HT.out.num hl2 rfl (fun j hj => HD.out j hj hj)
            have g4 : decide ((s.size : Int) < (s.size : Int)) = false := decide_eq_false (by omega)
            have hyes' : decB ((dgK s s.size : Nat) : Int) = s → NumQ s.data.toList ((dgK s s.size : Nat) : Int) := hyes
            have hno' : decB ((dgK s s.size : Nat) : Int) ≠ s → ∀ m, ¬ NumQ s.data.toList m := hno
            clear hyes hno
            obtain ⟨n, hn⟩ : ∃ n, ((dgK s s.size : Nat) : Int) = n := ⟨_, rfl⟩
            have hnb : I64 n := by unfold I64; omega
            rw [hn] at hyes' hno'
            have HNN := Lib.hid hn
            by_cases hd : decB n = s
            · have HR := Lib.hid (numR_yes (hyes' hd))
              have HD3 := Lib.hid hd
              clear hyes' hno' hd
              have g3 : (s.toList != s.toList) = false := by simp
              go_wp2_with fail
              try rw [HNN.out]
              refine (l01Dec_any n hnb _).mono ?_
              rintro e wz ⟨rfl, hb⟩
              rw [HD3.out]
              go_wp2_with fail
              go_ret2
              exact ⟨congrArg Ending.returned HR.out.symm, hb⟩
            · have HR := Lib.hid (numR_no (hno' hd))
              have g3 : ((decB n).toList == s.toList) = false := by rw [beq_eq_false_iff_ne]; intro e; rw [toL, toL] at e; exact hd (ba_ext e)
              clear hyes' hno' hd
              go_wp2_with fail
              try rw [HNN.out]
              refine (l01Dec_any n hnb _).mono ?_
              rintro e wz ⟨rfl, hb⟩
              go_wp2_with fail
              go_ret2
              exact ⟨congrArg Ending.returned HR.out.symm, hb⟩
  have hl : s.data.toList.length = s.size := Array.length_toList
  by_cases h45 : ∃ h0 : 0 < s.size, s[0]'h0 = 45
  · obtain ⟨h0, h45⟩ := h45
    have e0 : s.data.toList = 45 :: s.data.toList.drop 1 := by
      have h1 := List.drop_eq_getElem_cons (l := s.data.toList) (i := 0) (by omega)
      rw [List.drop_zero] at h1
      rw [h1]
      show s[0]'h0 :: _ = _
      rw [h45]
      rfl
    have e1 : (s.extract 1 s.size).data.toList = s.data.toList.drop 1 := ex_list s 1
    have e2 : (s.extract 1 s.size).size + 1 = s.size := by rw [ByteArray.size_extract]; omega
    refine key (s.extract 1 s.size) true ⟨by rw [e1, e0, bare_neg]; rfl, (decide_eq_true (by omega)).symm, fun _ => by rw [e1]; exact e0, fun h => by cases h⟩ (fun _ => ⟨h0, fun _ => h45, rfl⟩) (fun h => by cases h)
  · have hb : bare s.data.toList = s.data.toList := bare_pos fun r e => h45 (by
      have h0 : 0 < s.size := by rw [← hl, e]; simp
      refine ⟨h0, ?_⟩
      have h1 : s.data.toList[0]'(by omega) = 45 := by simp only [e]; rfl
      exact h1)
    refine key s false ⟨hb.symm, by simp, fun h => (by cases h), fun _ => rfl⟩ (fun h => by cases h) (fun _ => ⟨rfl, fun h0 e => h45 ⟨h0, e⟩⟩)
end Go.Proofs.YtdpmdifdnneinaaDoor
