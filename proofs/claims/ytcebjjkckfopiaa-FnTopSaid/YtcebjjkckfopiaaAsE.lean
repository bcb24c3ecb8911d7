/-
  Prices, and that they prove the worth.
-/
import Derived.Test.YtcebjjkckfopiaaAs8
import Derived.Test.YtcebjjkckfopiaaAs4
import Derived.Test.YtcebjjkckfopiaaAsD
import Derived.Test.YtcebjjkckfopiaaBx
import Derived.Deep.RegionHeld3
import Derived.OwnWalk
namespace Go.Proofs.Ytcebjjkckfopiaa
open Go.RowKit
set_option maxRecDepth 100000
set_option linter.unusedVariables false
set_option linter.unusedSimpArgs false
theorem owEmpty {w : World} {b base : Nat} {t : TypeId} (h : CAt w b #[] t) (hb : base ≤ b) : Ow eI 1 w base t (.slice (some ⟨b, 0, none⟩) 0 0) 0 [] :=
  ⟨by simp, .inr ⟨b, 0, #[], rfl, hb, h, Nat.le_refl _, by simp [maxLen], by simp, by simp⟩⟩
theorem sumL_map (f : Nat → Int) : ∀ k, sumL ((List.range k).map f) = sumN f k
  | 0 => rfl
  | k + 1 => by
    rw [List.range_succ, List.map_append, List.map_cons, List.map_nil, sumL_snoc, sumL_map f k]; rfl
theorem pow_ix {k S : Nat} (h : 2 ^ k < S) : (0 : Int) ≤ (2 : Int) ^ k ∧ (2 : Int) ^ k < (S : Int) ∧ ((2 : Int) ^ k).toNat = 2 ^ k := by
  have e : ((2 : Int) ^ k) = ((2 ^ k : Nat) : Int) := by simp
  rw [e]
  generalize 2 ^ k = z at h ⊢
  omega
set_option maxHeartbeats 4000000 in
theorem pricesA (m n : Nat) (rs : List GRow) (a : Option Addr) (c : Nat) (w : World) (hw : WtQ m n rs) (hg : GrR w a rs) : Calls Try.prog 11 #[.slice a m c] w fun e w' => ∃ (aO : Option Addr) (cO : Nat) (aS : Option Addr) (cS : Nat), e = .returned (.tuple #[.slice aO m cO, .slice aS n cS, .int .i64 0]) ∧ Rd eI 1 w' aO (prOL (wF rs) m n m) ∧ Rd eI 1 w' aS (prSL (wF rs) m n n) ∧ Below w.heap.size w w' := by
  have HW := Lib.hid hw
  have HG := Lib.hid hg
  have hn4 := hw.n4
  have hn1 := hw.n1
  have hm4 := hw.m4
  have hm1 := hw.m1
  obtain ⟨S, hS⟩ : ∃ z, 2 ^ n = z := ⟨_, rfl⟩
  have hS16 : S ≤ 16 := by rw [← hS]; exact Nat.pow_le_pow_right (by decide) hn4
  have HSS := Lib.hid hS
  have hS1 : 0 < S := by rw [← hS]; exact Nat.two_pow_pos n
  have HBD : Hid (∀ i k, 0 ≤ wF rs i k ∧ wF rs i k ≤ 11) := Lib.hid hw.bd
  clear hw hg hS
  go_enter Try.func11, Try.ntmps11
  go_wp2_with fail
  refine (validWA m n rs a c _ HW.out HG.out).mono ?_
  rintro e w1 ⟨rfl, hb1⟩
  have HG1 := Lib.hid (HG.out.below hb1)
  have HB1 := Lib.hid hb1
  clear hb1
  go_wp2_with fail
  refine (tableA m n rs a c _ HW.out HG1.out).mono ?_
  rintro e w2 ⟨a2, c2, rfl, hT, hb2⟩
  obtain ⟨bt, ot, rfl, hT2⟩ := hT.get
  obtain ⟨b5, o5, c5, u1, u2⟩ := hT2 0 (Nat.zero_le _)
  rw [Nat.add_zero, HSS.out] at u1
  rw [HSS.out, Nat.sub_zero] at u2
  have HU2 := Lib.hid u2
  have HG2 := Lib.hid (HG1.out.below hb2)
  have HB2 := Lib.hid (HB1.out.trans (hb2.mono HB1.out.size))
  have y1 := u1 w2 (Below.refl _ _)
  have hM : (0 : Int) < ((m + 1 : Nat) : Int) := by omega
  have hM' : (0 : Int) < (m : Int) + 1 := by omega
  have hS0 : (0 : Int) < (S : Int) := by omega
  obtain ⟨hx1, hx2, hx3, hx4⟩ := bx2 w2 #[] #[] 2 2
  obtain ⟨w3, hw3⟩ : ∃ wx, (w2.alloc (.cells #[] 2)).alloc (.cells #[] 2) = wx := ⟨_, rfl⟩
  rw [hw3] at hx1 hx2 hx3 hx4
  clear hT hT2 u1 u2 hb2
  go_upto_region 5 with (fail)
  obtain ⟨B, hB⟩ : ∃ B, w2.heap.size = B := ⟨_, rfl⟩
  rw [hB] at hx1 hx2 hx3 hx4 ⊢
  have HBB := Lib.hid hB
  have HS3 := Lib.hid (owEmpty hx1 (Nat.le_refl _))
  have HO3 := Lib.hid hx2
  have HB3 := Lib.hid hx3
  have HG3 := Lib.hid (HG2.out.below (hB ▸ hx3))
  have hB3 : B ≤ w3.heap.size := by omega
  clear hx1 hx2 hx3 hx4 hw3 hB y1 hM hM'
  obtain ⟨r0, hr0, g1, g2, g3⟩ := HW.out.at_ (show 0 < m by omega)
  obtain ⟨b0, o0, hab, hC⟩ := HG3.out.1.addr1 (f := fun r : GRow => Value.slice r.a r.n r.c) (by rw [HW.out.len]; omega) (fun _ => rfl)
  have x1 : w3.cell? ⟨b0, o0, none⟩ = some (.slice r0.a r0.n r0.c) := by have h9 := hC 0 r0 hr0 w3 (Below.refl _ _); rwa [Nat.add_zero] at h9
  rw [g1] at x1
  subst hab
  have jm : (0 : Int) < (m : Nat) := by omega
  clear hr0 g1 g2 g3 hC
  obtain ⟨VV, hVV⟩ : ∃ z, VT (wF rs) m n m 0 = z := ⟨_, rfl⟩
  have HVV := Lib.hid hVV
  clear hVV
  go_wp2_with fail
  clear x1 jm
  go_loopw [6, 8, 27] (fun sv uv iv wr => ∃ (k : Nat) (a' : Option Addr) (c' : Nat), uv = uv ∧ k ≤ n ∧ iv = .int .i64 k ∧ sv = .slice a' k c' ∧ Hid (Ow eI 1 wr B 2 (.slice a' k c') k (prSL (wF rs) m n k)) ∧ Hid (Value.ownBlock (.slice a' k c') ≠ some (B + 1)) ∧ Hid (CAt wr (B + 1) #[] 2) ∧ Hid (Below B w2 wr) ∧ B ≤ wr.heap.size) (fun _ _ iv _ => n - (intOf iv).toNat)
  case atStart => exact ⟨0, _, _, rfl, Nat.zero_le _, rfl, rfl, HS3, Lib.hid (by show some B ≠ some (B + 1); intro h; have := Option.some.inj h; omega), HO3, HB3, hB3⟩
  case round =>
  obtain ⟨k, a', c', -, hk, rfl, rfl, HS, HNE, HO, HBk, hBk⟩ := hrel
  obtain ⟨wA, hwA⟩ : ∃ wx, wx = wr := ⟨_, rfl⟩
  subst hwA
  clear HS3 HO3 HB3 hB3 HG3
  by_cases hlt : k < n
  · have hkS : 2 ^ k < S := by rw [← HSS.out]; exact Nat.pow_lt_pow_right (by omega) hlt
    have hB2A : Below w2.heap.size w2 wA := by rw [HBB.out]; exact HBk.out
    have z0 : wA.cell? ⟨b5, o5, none⟩ = some (.int .i64 VV) := by have h9 := HU2.out 0 hS1 wA hB2A; rw [Nat.add_zero, HVV.out] at h9; exact h9
    have z1 := HU2.out (2 ^ k) hkS wA hB2A
    obtain ⟨vk, hvk⟩ : ∃ z, VT (wF rs) m n m (2 ^ k) = z := ⟨_, rfl⟩
    rw [hvk] at z1
    obtain ⟨p0, p1⟩ := VT_bd (m := m) (n := n) (B := 11) HBD.out m (2 ^ k)
    obtain ⟨p2, p3⟩ := VT_bd (m := m) (n := n) (B := 11) HBD.out m 0
    rw [hvk] at p0 p1
    rw [HVV.out] at p2 p3
    have hq : prS (wF rs) m n k = VV - vk := by unfold prS; rw [hvk, HVV.out]
    have i1 : IntKind.i64.wrap (VV - vk) = VV - vk := IntWalk.i64_in _ (by omega)
    obtain ⟨ys, hys⟩ : ∃ ys, prSL (wF rs) m n (k + 1) = ys := ⟨_, rfl⟩
    have HYS : Hid (prSL (wF rs) m n k ++ [VV - vk] = ys) := Lib.hid (by rw [← hys, ← prSL_snoc, hq])
    have HYY := Lib.hid hys
    obtain ⟨xs, hxs⟩ : ∃ xs, prSL (wF rs) m n k = xs := ⟨_, rfl⟩
    rw [hxs] at HYS HS
    obtain ⟨ip1, ip2⟩ := pow_i64 (n := k) (by omega)
    have ip3 : IntKind.i64.wrap ((2 : Int) ^ k) = 2 ^ k := by rw [ip2]; simp
    have ip4 : wrap64 ((2 : Int) ^ k) = 2 ^ k := by rw [ip1]; simp
    obtain ⟨jp0, jp1, ip5⟩ := pow_ix (k := k) (S := S) hkS
    have jk0 : (0 : Int) ≤ (k : Nat) := by omega
    have jk6 : ((k : Nat) : Int) < 64 := by omega
    have hbq : Below wA.heap.size wA wA.drew := (Below.refl wA.heap.size wA).drew
    have HSD := Lib.hid (HS.out.below hbq)
    have HOD := Lib.hid HO.out.drew
    have HBD2 := Lib.hid (HBk.out.trans (hbq.mono hBk))
    have hBD : B ≤ wA.drew.heap.size := Nat.le_trans hBk hbq.size
    have h63 : k + 1 ≤ maxLen := by unfold maxLen; omega
    have hby : (k + 1) * 8 ≤ 140737488355328 := by omega
    clear hvk hq hys hxs hbq ip1 ip2 hB2A
    go_wp2_with fail
    go_region_law ((refine step_appL eI_len (by decide) _ rfl (.tmp 30) (.tmp 40) 34 rfl 2 _ 8 rfl Try.underlying34 infoAs B (.slice a' k c') k _ rfl wA.drew _ _ rfl HSD.out (VV - vk) rfl rfl (eI_one _) h63 hby hBD ys HYS ?_; intro g6 c6 w6 ho6 hb6 hl6 hk6; have HO6 := Lib.hid ho6; have HB6 := Lib.hid (HBD2.out.trans hb6); have HC6 : Hid (CAt w6 (B + 1) #[] 2) := Lib.hid (HOD.out.keep hk6 HNE.out); have HN6 : Hid (Value.ownBlock (.slice (some ⟨g6, 0, none⟩) (k + 1) c6) ≠ some (B + 1)) := Lib.hid (by have h7 := HOD.out.lt; intro h8; have h9 : g6 = B + 1 := Option.some.inj h8; rcases hl6 with h | h; exact HNE.out (by rw [h, h9]); omega); have hB6 : B ≤ w6.heap.size := (by have := HB6.out.size; have := HBB.out; omega); clear ho6 hb6 hl6 hk6))
    all_goals
      go_wp2_with fail
      go_roundw
      case rel => exact ⟨k + 1, _, c6, by trivial, by omega, by go_num, rfl, by rw [HYY.out]; exact HO6, HN6, HC6, HB6, hB6⟩
      case measure => simp [intOf]; omega
  · obtain rfl : n = k := by omega
    have HOE := Lib.hid (owEmpty (base := B) HO.out (by omega))
    have HNB : Hid (∀ b, Value.ownBlock (.slice a' n c') = some b → Value.ownBlock (.slice (some ⟨B + 1, 0, none⟩) 0 0) ≠ some b) := Lib.hid fun b h1 h2 => HNE.out (by rw [h1]; exact h2.symm)
    clear HO HNE
    go_wp2_with fail
    obtain ⟨wB, hwB⟩ : ∃ wx, wx = wA := ⟨_, rfl⟩
    have HWB := Lib.hid hwB
    clear hwB
    go_loopw [7, 10, 11, 12, 13, 45] (fun ov z1 z2 z3 z4 iv wr => ∃ (i : Nat) (aO : Option Addr) (cO : Nat), z1 = z1 ∧ z2 = z2 ∧ z3 = z3 ∧ z4 = z4 ∧ i ≤ m ∧ iv = .int .i64 i ∧ ov = .slice aO i cO ∧ Hid (Ow eI 1 wr B 2 (.slice aO i cO) i (prOL (wF rs) m n i)) ∧ Hid (Ow eI 1 wr B 2 (.slice a' n c') n (prSL (wF rs) m n n)) ∧ Hid (∀ b, Value.ownBlock (.slice a' n c') = some b → Value.ownBlock (.slice aO i cO) ≠ some b) ∧ Hid (Below B w2 wr) ∧ B ≤ wr.heap.size) (fun _ _ _ _ _ iv _ => m - (intOf iv).toNat)
    case atStart => exact ⟨0, _, _, rfl, rfl, rfl, rfl, Nat.zero_le _, rfl, rfl, HOE, HS, HNB, HBk, hBk⟩
    case round =>
    obtain ⟨i, aO, cO, -, -, -, -, hi, rfl, rfl, HOi, HSi, HNi, HBi, hBi⟩ := hrel
    obtain ⟨wC, hwC⟩ : ∃ wx, wx = wr := ⟨_, rfl⟩
    subst hwC
    clear HOE HS HNB HBk hBk HWB
    by_cases hlt2 : i < m
    · have HGC := Lib.hid (HG2.out.below (by rw [HBB.out]; exact HBi.out))
      obtain ⟨bq, oq, habq, hCq⟩ := HGC.out.1.addr1 (f := fun r : GRow => Value.slice r.a r.n r.c) (by rw [HW.out.len]; omega) (fun _ => rfl)
      cases habq
      obtain ⟨ri, hri, f1, f2, f3⟩ := HW.out.at_ hlt2
      have y5 : wC.cell? ⟨b0, o0 + i, none⟩ = some (.slice ri.a ri.n ri.c) := hCq i ri hri wC (Below.refl _ _)
      rw [f1] at y5
      have v2 := (HGC.out.2 ri (List.mem_of_getElem? hri)).1
      obtain ⟨b3, o3, hab3, hC3⟩ := v2.addr1 (f := fun x => Value.int .i64 x) (by rw [f2]; omega) (fun _ => rfl)
      rw [hab3] at y5
      have HC3 := Lib.hid hC3
      have HRI := Lib.hid hri
      have HF2 := Lib.hid f2
      have j0 : (0 : Int) ≤ (i : Nat) := by omega
      have j1 : ((i : Nat) : Int) < (m : Nat) := by omega
      obtain ⟨b4, o4, hab4, hC4⟩ := (HSi.out.rd eI_len (by decide)).addr1 (f := fun x => Value.int .i64 x) (by rw [prSL_len]; omega) (fun _ => rfl)
      have HC4 := Lib.hid hC4
      have HS4 := Lib.hid hab4
      clear hri f1 f2 f3 v2 hab3 hC3 hCq hC4
      go_wp2_with fail
      clear y5
      rw [hab4]
      clear hab4
      go_loopw [11, 12, 13, 51] (fun mv z1 z2 kv wr => ∃ q : Nat, z1 = z1 ∧ z2 = z2 ∧ q ≤ n ∧ kv = .int .i64 q ∧ mv = .int .i64 (prO (wF rs i) (prS (wF rs) m n) q) ∧ Hid (wC = wr)) (fun _ _ _ kv _ => n - (intOf kv).toNat)
      case atStart => exact ⟨0, by trivial, by trivial, Nat.zero_le _, rfl, rfl, by trivial⟩
      case round =>
      obtain ⟨q, -, -, hq, rfl, rfl, HWC⟩ := hrel
      have hwc := HWC.out
      subst hwc
      clear HWC
      by_cases hqn : q < n
      · obtain ⟨x, hx⟩ : ∃ z, ri.xs[q]? = some z := ⟨_, List.getElem?_eq_getElem (by rw [HF2.out]; exact hqn)⟩
        have y6 : wC.cell? ⟨b3, o3 + q, none⟩ = some (.int .i64 x) := HC3.out q x hx wC (Below.refl _ _)
        have y7 : wC.cell? ⟨b4, o4 + q, none⟩ = some (.int .i64 (prS (wF rs) m n q)) := HC4.out q _ (prSL_at _ _ _ hqn) wC (Below.refl _ _)
        have hwx : wF rs i q = x := wF_eq HRI.out hx
        have hxb := HBD.out i q
        rw [hwx] at hxb
        have hqb0 := prS_pos (wF rs) m n q
        have hqb1 := prS_le (m := m) (n := n) HBD.out hm4 q
        have hsn : (if prO (wF rs i) (prS (wF rs) m n) q < x - prS (wF rs) m n q then x - prS (wF rs) m n q else prO (wF rs i) (prS (wF rs) m n) q) = prO (wF rs i) (prS (wF rs) m n) (q + 1) := by
          rw [← hwx]
          show _ = max _ _
          split <;> omega
        obtain ⟨Q, hQ⟩ : ∃ z, prS (wF rs) m n q = z := ⟨_, rfl⟩
        obtain ⟨M, hM⟩ : ∃ z, prO (wF rs i) (prS (wF rs) m n) q = z := ⟨_, rfl⟩
        rw [hQ] at y7 hqb0 hqb1 hsn
        rw [hM] at hsn ⊢
        have HSN := Lib.hid hsn
        have i1 : IntKind.i64.wrap (x - Q) = x - Q := IntWalk.i64_in _ (by omega)
        have jq0 : (0 : Int) ≤ (q : Nat) := by omega
        have jq1 : ((q : Nat) : Int) < (n : Nat) := by omega
        clear hx hwx hQ hM hsn
        go_wp2_with fail
        go_roundw
        case rel => exact ⟨q + 1, by trivial, by trivial, by omega, by go_num, by first | (rw [HSN.out]) | (congr 1; exact HSN.out), by trivial⟩
        case measure => simp [intOf]; omega
      · obtain rfl : n = q := by omega
        obtain ⟨M, hM⟩ : ∃ z, prO (wF rs i) (prS (wF rs) m n) n = z := ⟨_, rfl⟩
        obtain ⟨ys, hys⟩ : ∃ ys, prOL (wF rs) m n (i + 1) = ys := ⟨_, rfl⟩
        have HYS : Hid (prOL (wF rs) m n i ++ [M] = ys) := Lib.hid (by rw [← hys, ← prOL_snoc, hM])
        have HYY := Lib.hid hys
        rw [hM, ← HS4.out]
        have h63 : i + 1 ≤ maxLen := by unfold maxLen; omega
        have hby : (i + 1) * 8 ≤ 140737488355328 := by omega
        clear hM hys
        go_wp2_with (at_builtin; refine wpl_appL eI_len (by decide) _ rfl (.tmp 65) (.tmp 67) 34 rfl 2 _ 8 rfl Try.underlying34 infoAs B (.slice aO i cO) i _ rfl wC _ _ rfl HOi.out M rfl rfl (eI_one _) h63 hby hBi ys HYS ?_)
        intro g6 c6 w6 ho6 hb6 hl6 hk6
        have HO6 := Lib.hid ho6
        have HB6 := Lib.hid (HBi.out.trans hb6)
        have HS6 : Hid (Ow eI 1 w6 B 2 (.slice a' n c') n (prSL (wF rs) m n n)) := Lib.hid (HSi.out.same fun b hb => hk6 b (HSi.out.lt b hb).2 (HNi.out b hb))
        have HN6 : Hid (∀ b, Value.ownBlock (.slice a' n c') = some b → Value.ownBlock (.slice (some ⟨g6, 0, none⟩) (i + 1) c6) ≠ some b) := Lib.hid fun b h1 h2 => by
          have h9 : g6 = b := Option.some.inj h2
          have h8 := (HSi.out.lt b h1).2
          rcases hl6 with h | h
          · exact HNi.out b h1 (by rw [h, h9])
          · omega
        have hB6 : B ≤ w6.heap.size := by have := HB6.out.size; have := HBB.out; omega
        clear ho6 hb6 hl6 hk6
        go_wp2_with fail
        go_roundw
        case rel => exact ⟨i + 1, _, c6, by trivial, by trivial, by trivial, by trivial, by omega, by go_num, rfl, by rw [HYY.out]; exact HO6, HS6, HN6, HB6, hB6⟩
        case measure => simp [intOf]; omega
    · obtain rfl : m = i := by omega
      have HRO := Lib.hid (HOi.out.rd eI_len (by decide))
      have HRS := Lib.hid (HSi.out.rd eI_len (by decide))
      have HBE := Lib.hid (HB2.out.trans ((show Below w2.heap.size w2 wC by rw [HBB.out]; exact HBi.out).mono HB2.out.size))
      go_wp2_with fail
      go_ret3
      exact ⟨_, _, _, _, rfl, HRO.out, HRS.out, HBE.out⟩
set_option maxHeartbeats 2000000 in
theorem l17PricesA (L : List Int) (a : Option Addr) (n c : Nat) (w : World) (hn : n ≤ 100) (hl : L.length = n) (hb : ∀ x ∈ L, 0 ≤ x ∧ x ≤ 100) (hr : Rd eI 1 w a L) : Calls Try.prog 34 #[.slice a n c] w fun e w' => e = .returned (.bool true) ∧ w = w' := by
  have HL := Lib.hid hl
  have HB := Lib.hid hb
  have HR := Lib.hid hr
  clear hl hb hr
  go_enter Try.func34, Try.ntmps34
  go_wp2_with fail
  go_loopw [3] (fun iv wr => ∃ k : Nat, k ≤ n ∧ iv = .int .i64 k ∧ Hid (w = wr)) (fun iv _ => n - (intOf iv).toNat)
  case atStart => exact ⟨0, Nat.zero_le _, rfl, by trivial⟩
  case round =>
  obtain ⟨k, hk, rfl, HW⟩ := hrel
  have hw := HW.out
  subst hw
  clear HW
  by_cases hlt : k < n
  · obtain ⟨x, hx⟩ : ∃ z, L[k]? = some z := ⟨_, List.getElem?_eq_getElem (by rw [HL.out]; exact hlt)⟩
    obtain ⟨b, o, he, hc⟩ := HR.out.at1 hx (u := .int .i64 x) rfl
    have y0 := hc.2
    subst he
    obtain ⟨hx0, hx1⟩ := HB.out x (List.mem_of_getElem? hx)
    have HIX : Hid (inB x 0 1000000 = true) := Lib.hid (inB_iff.2 ⟨by omega, by omega⟩)
    have j0 : (0 : Int) ≤ (k : Nat) := by omega
    have j1 : ((k : Nat) : Int) < (n : Nat) := by omega
    clear hx hc
    go_wp2_with fail
    refine (l00In_lit _ _ _ true _ HIX.out).mono ?_
    rintro e wz ⟨rfl, rfl⟩
    go_wp2_with fail
    go_roundw
    case rel => exact ⟨k + 1, by omega, by go_num, by trivial⟩
    case measure => simp [intOf]; omega
  · go_wp2_with fail
    go_ret
    exact ⟨rfl, by first | rfl | trivial⟩
set_option maxHeartbeats 4000000 in
theorem provesA (m n : Nat) (rs : List GRow) (OL SL : List Int) (V : Int) (a aO aS : Option Addr) (c cO cS : Nat) (w : World) (hw : WtQ m n rs) (hg : GrR w a rs) (hO : OL.length = m) (hS : SL.length = n) (bO : ∀ x ∈ OL, 0 ≤ x ∧ x ≤ 100) (bS : ∀ x ∈ SL, 0 ≤ x ∧ x ≤ 100) (hV : 0 ≤ V ∧ V ≤ 1000) (rO : Rd eI 1 w aO OL) (rS : Rd eI 1 w aS SL)
    (hfit : ∀ i k x y, i < m → k < n → OL[i]? = some x → SL[k]? = some y → wF rs i k ≤ x + y) (hsum : sumL OL + sumL SL ≤ V) :
    Calls Try.prog 12 #[.slice a m c, .slice aO m cO, .slice aS n cS, .int .i64 V] w fun e w' => e = .returned (.tuple #[.bool true, .int .i64 0]) ∧ Below w.heap.size w w' := by
  have HW := Lib.hid hw
  have HG := Lib.hid hg
  have HOL := Lib.hid hO
  have HSL := Lib.hid hS
  have HBO := Lib.hid bO
  have HBS := Lib.hid bS
  have HRO := Lib.hid rO
  have HRS := Lib.hid rS
  have HF := Lib.hid hfit
  have HU := Lib.hid hsum
  have hn4 := hw.n4
  have hn1 := hw.n1
  have hm4 := hw.m4
  have hm1 := hw.m1
  obtain ⟨hV0, hV1⟩ := hV
  have HIV : Hid (inB V 0 1000000 = true) := Lib.hid (inB_iff.2 ⟨by omega, by omega⟩)
  have dm : ((m : Int) != (m : Int)) = false := by simp
  have dn : ((n : Int) != (n : Int)) = false := by simp
  clear hw hg hO hS bO bS rO rS hfit hsum
  go_enter Try.func12, Try.ntmps12
  go_wp2_with fail
  refine (l17OkA m n rs a c _ HW.out HG.out).mono ?_
  rintro e w1 ⟨rfl, hb1⟩
  have HG1 := Lib.hid (HG.out.below hb1)
  have HRO1 := Lib.hid (HRO.out.below hb1)
  have HRS1 := Lib.hid (HRS.out.below hb1)
  have HB1 := Lib.hid hb1
  clear hb1 HG HRO HRS
  obtain ⟨r0, hr0, g1, g2, g3⟩ := HW.out.at_ (show 0 < m by omega)
  obtain ⟨b0, o0, hab, hC⟩ := HG1.out.1.addr1 (f := fun r : GRow => Value.slice r.a r.n r.c) (by rw [HW.out.len]; omega) (fun _ => rfl)
  have x1 : w1.cell? ⟨b0, o0, none⟩ = some (.slice r0.a r0.n r0.c) := by have h9 := hC 0 r0 hr0 w1 (Below.refl _ _); rwa [Nat.add_zero] at h9
  rw [g1] at x1
  subst hab
  have HC := Lib.hid hC
  have jm : (0 : Int) < (m : Nat) := by omega
  clear hr0 g1 g2 g3 hC
  go_wp2_with fail
  refine (l17PricesA OL aO m cO _ (by omega) HOL.out HBO.out HRO1.out).mono ?_
  rintro e wz ⟨rfl, rfl⟩
  go_wp2_with fail
  refine (l17PricesA SL aS n cS _ (by omega) HSL.out HBS.out HRS1.out).mono ?_
  rintro e wz ⟨rfl, rfl⟩
  go_wp2_with fail
  refine (l00In_lit _ _ _ true _ HIV.out).mono ?_
  rintro e wz ⟨rfl, rfl⟩
  go_wp2_with fail
  refine (l02Sum_any OL aO m cO _ (by omega) HOL.out HRO1.out (fun x hx => by have := HBO.out x hx; omega)).mono ?_
  rintro e w2 ⟨rfl, hb2⟩
  have HRS2 := Lib.hid (HRS1.out.below hb2)
  go_wp2_with fail
  refine (l02Sum_any SL aS n cS _ (by omega) HSL.out HRS2.out (fun x hx => by have := HBS.out x hx; omega)).mono ?_
  rintro e w3 ⟨rfl, hb3⟩
  have hb13 : Below w1.heap.size w1 w3 := hb2.trans (hb3.mono hb2.size)
  obtain ⟨s1, hs1⟩ : ∃ z, sumL OL = z := ⟨_, rfl⟩
  obtain ⟨s2, hs2⟩ : ∃ z, sumL SL = z := ⟨_, rfl⟩
  have hsb : 0 ≤ s1 ∧ s1 ≤ 1000 := by
    have h9 := sumL_bd (lo := 0) (hi := 100) OL HBO.out
    rw [HOL.out, hs1] at h9; omega
  have hsc : 0 ≤ s2 ∧ s2 ≤ 1000 := by
    have h9 := sumL_bd (lo := 0) (hi := 100) SL HBS.out
    rw [HSL.out, hs2] at h9; omega
  have i1 : IntKind.i64.wrap (s1 + s2) = s1 + s2 := IntWalk.i64_in _ (by omega)
  have dV : decide (s1 + s2 ≤ V) = true := decide_eq_true (by have := HU.out; rw [hs1, hs2] at this; exact this)
  rw [hs1, hs2]
  have HG3 := Lib.hid (HG1.out.below hb13)
  have HRO3 := Lib.hid (HRO1.out.below hb13)
  have HRS3 := Lib.hid (HRS1.out.below hb13)
  have HB3 := Lib.hid (HB1.out.trans (hb13.mono HB1.out.size))
  clear hb2 hb3 hb13 hs1 hs2 HRO1 HRS1 HRS2 HG1 x1 jm dm dn
  go_wp2_with fail
  go_loopw [11] (fun iv wr => ∃ i : Nat, i ≤ m ∧ iv = .int .i64 i ∧ Hid (Below w3.heap.size w3 wr)) (fun iv _ => m - (intOf iv).toNat)
  case atStart => exact ⟨0, Nat.zero_le _, rfl, Lib.hid (Below.refl _ _)⟩
  case round =>
  obtain ⟨i, hi, rfl, HBi⟩ := hrel
  obtain ⟨wA, hwA⟩ : ∃ wx, wx = wr := ⟨_, rfl⟩
  subst hwA
  by_cases hlt : i < m
  · go_wp2_with fail
    go_loopw [12] (fun kv wr => ∃ k : Nat, k ≤ n ∧ kv = .int .i64 k ∧ Hid (Below w3.heap.size w3 wr)) (fun kv _ => n - (intOf kv).toNat)
    case atStart => exact ⟨0, Nat.zero_le _, rfl, HBi⟩
    case round =>
    obtain ⟨k, hk, rfl, HBk⟩ := hrel
    obtain ⟨wC, hwC⟩ : ∃ wx, wx = wr := ⟨_, rfl⟩
    subst hwC
    by_cases hlk : k < n
    · have HGC := Lib.hid (HG3.out.below HBk.out)
      obtain ⟨bq, oq, habq, hCq⟩ := HGC.out.1.addr1 (f := fun r : GRow => Value.slice r.a r.n r.c) (by rw [HW.out.len]; omega) (fun _ => rfl)
      cases habq
      obtain ⟨ri, hri, f1, f2, f3⟩ := HW.out.at_ hlt
      have y5 : wC.cell? ⟨b0, o0 + i, none⟩ = some (.slice ri.a ri.n ri.c) := hCq i ri hri wC (Below.refl _ _)
      rw [f1] at y5
      have v2 := (HGC.out.2 ri (List.mem_of_getElem? hri)).1
      obtain ⟨b3, o3, hab3, hC3⟩ := v2.addr1 (f := fun x => Value.int .i64 x) (by rw [f2]; omega) (fun _ => rfl)
      rw [hab3] at y5
      obtain ⟨z, hz⟩ : ∃ z, ri.xs[k]? = some z := ⟨_, List.getElem?_eq_getElem (by rw [f2]; exact hlk)⟩
      have y6 : wC.cell? ⟨b3, o3 + k, none⟩ = some (.int .i64 z) := hC3 k z hz wC (Below.refl _ _)
      obtain ⟨x, hx⟩ : ∃ z, OL[i]? = some z := ⟨_, List.getElem?_eq_getElem (by rw [HOL.out]; exact hlt)⟩
      obtain ⟨y, hy⟩ : ∃ z, SL[k]? = some z := ⟨_, List.getElem?_eq_getElem (by rw [HSL.out]; exact hlk)⟩
      obtain ⟨b7, o7, he7, hc7⟩ := (HRO3.out.below HBk.out).at1 hx (u := .int .i64 x) rfl
      obtain ⟨b8, o8, he8, hc8⟩ := (HRS3.out.below HBk.out).at1 hy (u := .int .i64 y) rfl
      have y7 := hc7.2
      have y8 := hc8.2
      have hf := HF.out i k x y hlt hlk hx hy
      rw [wF_eq hri hz] at hf
      have hxb := HBO.out x (List.mem_of_getElem? hx)
      have hyb := HBS.out y (List.mem_of_getElem? hy)
      have i2 : IntKind.i64.wrap (x + y) = x + y := IntWalk.i64_in _ (by omega)
      have d2 : decide (x + y < z) = false := decide_eq_false (by omega)
      have j0 : (0 : Int) ≤ (i : Nat) := by omega
      have j1 : ((i : Nat) : Int) < (m : Nat) := by omega
      have j2 : (0 : Int) ≤ (k : Nat) := by omega
      have j3 : ((k : Nat) : Int) < (n : Nat) := by omega
      subst he7
      subst he8
      clear hri f1 f2 f3 v2 hab3 hC3 hCq hz hx hy hc7 hc8 hf
      go_wp2_with fail
      go_quiet (fail)
      have hbq := below_drewN (Below.refl wC.heap.size wC) nq
      have HBD := Lib.hid (HBk.out.trans (hbq.mono HBk.out.size))
      clear hbq
      go_wp2_with fail
      go_roundw
      case rel => exact ⟨k + 1, by omega, by go_num, HBD⟩
      case measure => simp [intOf]; omega
    · obtain rfl : n = k := by omega
      go_wp2_with fail
      go_roundw
      case rel => exact ⟨i + 1, by omega, by go_num, HBk⟩
      case measure => simp [intOf]; omega
  · have HBE := Lib.hid (HB3.out.trans (HBi.out.mono HB3.out.size))
    go_wp2_with fail
    go_ret2
    exact ⟨rfl, HBE.out⟩
end Go.Proofs.Ytcebjjkckfopiaa
