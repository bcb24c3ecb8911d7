/-
  A magnitude between two stars; the mean and the median; magnitudes that are drawn.
-/
import Derived.Test.YtomlhicpjchdoaaGreatDoorMgP
import Derived.Test.YtomlhicpjchdoaaGreatDoorDrw
import Derived.Test.YtomlhicpjchdoaaGreatDoorMM
import Derived.Test.YtomlhicpjchdoaaGreatDoorEst0
namespace Go.Proofs.YtomlhicpjchdoaaGreatDoor
open Go.RowKit
set_option maxRecDepth 100000
set_option linter.unusedVariables false
set_option linter.unusedSimpArgs false
theorem infoMg : (Tryz.prog.info? 2).map (fun i => (i.zero, i.size, i.bytes)) = some (some (.int .i64 0), 1, 8) := by kernel_rfl
def MgIn (l : List Int) : Prop := ∀ x ∈ l, -2000 ≤ x ∧ x ≤ 20000
theorem some0 {l : List Int} (h : MgIn l) (h1 : 1 ≤ l.length) (h2 : l.length ≤ 100) : someC l = 0 := by
  unfold someC
  rw [if_pos (magsB_of h2 h), if_neg (by intro e; rw [e] at h1; simp at h1)]
set_option maxHeartbeats 2000000 in
theorem betS (a b p q : Int) (w : World) (ha : -2000 ≤ a ∧ a ≤ 20000) (hb : -2000 ≤ b ∧ b ≤ 20000) (hp : 0 ≤ p ∧ p ≤ 50) (hq : 0 ≤ q ∧ q ≤ 50) (h : 1 ≤ p + q) : Calls Tryz.prog 7 #[.int .i64 a, .int .i64 b, .int .i64 p, .int .i64 q] w fun e w' => e = .returned (.tuple #[.int .i64 (nearF (betX a b p q) (p + q)), .int .i64 0]) ∧ w = w' := by
  have h1 := mg_mul (a := a) (p := p + q) (A := 20000) (P := 100) (by omega) (by omega) (by omega) (by omega) (by omega)
  have h2 := mg_mul (a := b - a) (p := p) (A := 22000) (P := 50) (by omega) (by omega) (by omega) (by omega) (by omega)
  have HX : Hid (betX a b p q = a * (p + q) + (b - a) * p) := Lib.hid rfl
  obtain ⟨P, hP⟩ : ∃ z, a * (p + q) = z := ⟨_, rfl⟩
  obtain ⟨Q, hQ⟩ : ∃ z, (b - a) * p = z := ⟨_, rfl⟩
  have i1 : IntKind.i64.wrap (p + q) = p + q := IntWalk.i64_in _ (by omega)
  have i2 : IntKind.i64.wrap (b - a) = b - a := IntWalk.i64_in _ (by omega)
  have i3 : IntKind.i64.wrap (a * (p + q)) = P := by rw [hP] at h1 ⊢; exact IntWalk.i64_in _ (by omega)
  have i4 : IntKind.i64.wrap ((b - a) * p) = Q := by rw [hQ] at h2 ⊢; exact IntWalk.i64_in _ (by omega)
  rw [hP] at h1
  rw [hQ] at h2
  have i5 : IntKind.i64.wrap (P + Q) = P + Q := IntWalk.i64_in _ (by omega)
  have d0 : (p + q == 0) = false := beq_eq_false_iff_ne.2 (by omega)
  have va : inB a (-2000) 20000 = true := inB_iff.2 ha
  have vb : inB b (-2000) 20000 = true := inB_iff.2 hb
  have vp : inB p 0 50 = true := inB_iff.2 hp
  have vq : inB q 0 50 = true := inB_iff.2 hq
  have HXX : Hid (betX a b p q = P + Q) := Lib.hid (by rw [HX.out, hP, hQ])
  have HN : Hid (∀ wq, Calls Tryz.prog 18 #[.int .i64 (P + Q), .int .i64 (p + q)] wq fun e w' => e = .returned (.int .i64 (nearF (P + Q) (p + q))) ∧ wq = w') := Lib.hid fun wq => nearG (P + Q) (p + q) wq (by omega) (by omega) (by omega) (by omega)
  clear hP hQ HX ha hb hp hq h h1 h2
  go_enter Tryz.func7, Tryz.ntmps7
  go_wp2_with fail
  refine (ValidMag_lit _ _ _ va).mono ?_
  rintro e wz ⟨rfl, rfl⟩
  go_wp2_with fail
  refine (ValidMag_lit _ _ _ vb).mono ?_
  rintro e wz ⟨rfl, rfl⟩
  go_wp2_with fail
  refine (in_lit _ _ _ _ _ vp).mono ?_
  rintro e wz ⟨rfl, rfl⟩
  go_wp2_with fail
  refine (in_lit _ _ _ _ _ vq).mono ?_
  rintro e wz ⟨rfl, rfl⟩
  go_wp2_with fail
  refine (HN.out _).mono ?_
  rintro e wz ⟨rfl, rfl⟩
  go_wp2_with fail
  go_ret2
  exact ⟨by rw [HXX.out]; rfl, rfl⟩
set_option maxHeartbeats 2000000 in
theorem meanM (ls : List Int) (a : Option Addr) (n c : Nat) (w : World) (h1 : 1 ≤ n) (hn : n ≤ 100) (hl : ls.length = n) (hb : MgIn ls) (hr : Rd eI 1 w a ls) : Calls Tryz.prog 22 #[.slice a n c] w fun e w' => e = .returned (.int .i64 (nearF (sumL ls) (n : Int))) ∧ Below w.heap.size w w' := by
  have hs := sumL_bd (lo := -2000) (hi := 20000) ls hb
  rw [hl] at hs
  have HC : Hid (Calls Tryz.prog 34 #[.slice a n c] w fun e w' => e = .returned (.int .i64 (sumL ls)) ∧ Below w.heap.size w w') := Lib.hid (sum_any ls a n c w (by omega) hl hr fun x hx => by have := hb x hx; omega)
  obtain ⟨T, hT⟩ : ∃ z, sumL ls = z := ⟨_, rfl⟩
  rw [hT] at hs HC ⊢
  clear hl hb hr hT
  go_enter Tryz.func22, Tryz.ntmps22
  go_wp2_with fail
  refine HC.out.mono ?_
  rintro e w1 ⟨rfl, hb1⟩
  have HB1 := Lib.hid hb1
  clear hb1
  go_wp2_with fail
  refine (countI_any a n c _).mono ?_
  rintro e wz ⟨rfl, rfl⟩
  go_wp2_with fail
  refine (nearG T (n : Int) _ (by omega) (by omega) (by omega) (by omega)).mono ?_
  rintro e wz ⟨rfl, rfl⟩
  go_wp2_with fail
  go_ret
  exact ⟨rfl, HB1.out⟩
set_option maxHeartbeats 1000000 in
theorem MeanMag_m (ls : List Int) (a : Option Addr) (n c : Nat) (w : World) (h1 : 1 ≤ n) (hn : n ≤ 100) (hl : ls.length = n) (hb : MgIn ls) (hr : Rd eI 1 w a ls) : Calls Tryz.prog 9 #[.slice a n c] w fun e w' => e = .returned (.tuple #[.int .i64 (nearF (sumL ls) (n : Int)), .int .i64 0]) ∧ Below w.heap.size w w' := by
  have HS := Lib.hid (some0 hb (by omega) (by omega))
  have HL := Lib.hid hl
  have HB := Lib.hid hb
  have HR := Lib.hid hr
  clear hl hb hr
  go_enter Tryz.func9, Tryz.ntmps9
  go_wp2_with fail
  refine (someMags_any ls a n c _ (by omega) HL.out HR.out).mono ?_
  rintro e w1 ⟨rfl, hb1⟩
  rw [HS.out]
  have HR1 := Lib.hid (HR.out.below hb1)
  have HB1 := Lib.hid hb1
  clear hb1
  go_wp2_with fail
  refine (meanM ls a n c _ h1 hn HL.out HB.out HR1.out).mono ?_
  rintro e w2 ⟨rfl, hb2⟩
  have HB2 := Lib.hid (HB1.out.trans (hb2.mono HB1.out.size))
  clear hb2
  go_wp2_with fail
  go_ret2
  exact ⟨rfl, HB2.out⟩
def MgDr (w : World) (e : Ending) (w' : World) : Prop := ∃ (m : Nat) (a' : Option Addr) (c' : Nat) (L : List Int), e = .returned (.slice a' m c') ∧ 1 ≤ m ∧ m ≤ 8 ∧ L.length = m ∧ MgIn L ∧ Rd eI 1 w' a' L ∧ Below w.heap.size w w'
set_option maxHeartbeats 2000000 in
theorem A2Mags_any (a : Option Addr) (n c : Nat) (xs : List Int) (w : World) (hl : xs.length = n) (ho : ∀ x ∈ xs, Byt x) (hr : Rd eB 1 w a xs) : Calls Tryz.prog 5 #[.slice a n c] w (MgDr w) := by
  have HL := Lib.hid hl
  have HO := Lib.hid ho
  have HR := Lib.hid hr
  clear hl ho hr
  go_enter Tryz.func5, Tryz.ntmps5
  go_wp2_with fail
  refine (srcFrom a n c _).mono ?_
  rintro e w1 ⟨rfl, hs1, hlt1⟩
  have HS1 := Lib.hid hs1
  obtain ⟨b, hb⟩ : ∃ b, w.heap.size = b := ⟨_, rfl⟩
  rw [hb] at HS1 hlt1 ⊢
  have HBB := Lib.hid hb
  clear hs1 hb
  go_wp2_with fail
  refine (l02Draw_any w _ b a n c 0 0 xs (by omega) HL.out HO.out HR.out HS1.out).mono ?_
  rintro e w2 ⟨v, p2, z2, rfl, hv, hp2, hs2, hu2⟩
  have HS2 := Lib.hid hs2
  have hbB : b < w2.heap.size := hs2.lt'
  have HG := Lib.hid (Ow.oneG eI_len w2 v 2)
  have HSA := Lib.hid (hs2.alloc' (.cells #[.int .i64 v] 2))
  have hBA : w2.heap.size ≤ (w2.alloc (.cells #[.int .i64 v] 2)).heap.size := by simp
  obtain ⟨B, hB⟩ : ∃ B, w2.heap.size = B := ⟨_, rfl⟩
  obtain ⟨wA, hwA⟩ : ∃ wx, w2.alloc (.cells #[.int .i64 v] 2) = wx := ⟨_, rfl⟩
  have HG' : Hid (Ow eI 1 wA B 2 (.slice (some ⟨B, 0, none⟩) 1 1) 1 [v]) := Lib.hid (by rw [← hB, ← hwA]; exact HG.out)
  rw [hwA] at HSA hBA
  rw [hB] at hbB hBA
  have HMI : Hid (MgIn [v]) := Lib.hid fun x hx => by rw [List.mem_singleton.1 hx]; exact hv
  have HBB2 := Lib.hid hB
  have HWA := Lib.hid hwA
  clear hs2 hu2 HG hB hwA hv HS1 HS2
  go_upto_region 3 with (fail)
  rw [HWA.out, HBB2.out]
  clear HWA
  go_wp2_with fail
  refine (srcPick 8 w _ b a n c p2 z2 xs (by omega) (by omega) (by omega) HL.out HO.out HR.out HSA.out).mono ?_
  rintro e w3 ⟨k, p3, z3, rfl, hk0, hk1, hp3, hs3, hu3⟩
  have HG3 := Lib.hid (HG'.out.draw HSA.out hs3 hu3 hbB)
  have hB3 : B ≤ w3.heap.size := Nat.le_trans hBA hu3.size
  have HS3 := Lib.hid hs3
  clear hs3 hu3 HG' HSA
  go_wp2_with fail
  go_loopw [4, 5] (fun lv kv wr => ∃ (q : Nat) (K : Int) (a' : Option Addr) (c' : Nat) (L : List Int) (p' : Nat) (z' : Int), kv = .int .i64 K ∧ 0 ≤ K ∧ K + q ≤ 8 ∧ 1 ≤ q ∧ lv = .slice a' q c' ∧ Hid (MgIn L) ∧ Hid (Ow eI 1 wr B 2 (.slice a' q c') q L) ∧ p' ≤ 100 + 4 * q ∧ B ≤ wr.heap.size ∧ Hid (SrcAt w wr b a n c p' z')) (fun _ kv _ => (intOf kv).toNat)
  case atStart => exact ⟨1, k, _, _, [v], p3, z3, rfl, hk0, by omega, by omega, rfl, HMI, HG3, by omega, hB3, HS3⟩
  case round =>
  obtain ⟨q, K, a', c', L, p', z', rfl, hK0, hK8, hq1, rfl, HMk, HGk, hp', hBr, HSk⟩ := hrel
  obtain ⟨wB, hwB⟩ : ∃ wx, wx = wr := ⟨_, rfl⟩
  subst hwB
  clear HG3 HS3 hB3
  by_cases hlt : 0 < K
  · go_wp2_with fail
    refine (l02Draw_any w _ b a n c p' z' xs (by omega) HL.out HO.out HR.out HSk.out).mono ?_
    rintro e w5 ⟨x, p5, z5, rfl, hx, hp5, hs5, hu5⟩
    have HG5 := Lib.hid (HGk.out.draw HSk.out hs5 hu5 hbB)
    have hB5 : B ≤ w5.heap.size := Nat.le_trans hBr hu5.size
    have HS5 := Lib.hid hs5
    obtain ⟨ys, hys⟩ : ∃ ys, L ++ [x] = ys := ⟨_, rfl⟩
    have HYS := Lib.hid hys
    have HMY : Hid (MgIn ys) := Lib.hid fun y hy => by
      rw [← hys] at hy
      rcases List.mem_append.1 hy with h | h
      · exact HMk.out y h
      · rw [List.mem_singleton.1 h]; exact hx
    have h63 : q + 1 ≤ maxLen := by unfold maxLen; omega
    have hby : (q + 1) * 8 ≤ 140737488355328 := by omega
    clear hs5 hu5 hys hx
    go_wp2_with (at_builtin; refine wpl_app eI_len (by decide) _ rfl (.tmp 17) (.tmp 20) 24 rfl 2 _ 8 rfl Tryz.underlying24 infoMg B (.slice a' q c') q _ rfl w5 _ _ rfl HG5.out x rfl rfl (eI_one _) h63 hby hB5 ys HYS ?_)
    intro a6 c6 w6 ho6 hb6 hs6
    have HG6 := Lib.hid ho6
    have HS6 := Lib.hid (HS5.out.belowN hb6 hbB)
    have hB6 : B ≤ w6.heap.size := by have := hb6.size; omega
    clear ho6 hb6 hs6
    go_wp2_with fail
    go_roundw
    case rel => exact ⟨q + 1, K - 1, a6, c6, ys, p5, z5, rfl, by omega, by omega, by omega, rfl, HMY, HG6, by omega, hB6, HS6⟩
    case measure => simp [intOf]; omega
  · obtain rfl : K = 0 := by omega
    have HRD := Lib.hid (HGk.out.rd eI_len (by decide))
    have HLN := Lib.hid (HGk.out.len eI_len (by decide))
    have HBE := Lib.hid HSk.out.ok
    go_wp2_with fail
    go_ret
    exact ⟨q, a', c', L, rfl, hq1, by omega, HLN.out, HMk.out, HRD.out, HBE.out⟩
end Go.Proofs.YtomlhicpjchdoaaGreatDoor
