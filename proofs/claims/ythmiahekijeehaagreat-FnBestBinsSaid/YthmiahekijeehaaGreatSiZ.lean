/-
  The library's stable sort at numbers: blocks, and merges of blocks.
-/
import Derived.Test.YthmiahekijeehaaGreatSiX
namespace Go.Proofs.YthmiahekijeehaaGreat
open Go.RowKit
set_option maxRecDepth 100000
set_option linter.unusedVariables false
set_option linter.unusedSimpArgs false
variable {P0 : Int → Prop} {key : Ix P0 → Int}
theorem cut3 {L : List (Ix P0)} {p k : Nat} (h : p + k ≤ L.length) : ∃ A M B, L = A ++ (M ++ B) ∧ A.length = p ∧ M.length = k ∧ B.length = L.length - (p + k) := by
  refine ⟨L.take p, (L.drop p).take k, (L.drop p).drop k, ?_, ?_, ?_, ?_⟩
  · rw [List.take_append_drop, List.take_append_drop]
  · rw [List.length_take]; omega
  · rw [List.length_take, List.length_drop]; omega
  · rw [List.length_drop, List.length_drop]; omega
theorem BlkI.mid {R Q : Ix P0 → Ix P0 → Prop} {s j : Nat} {X L A M B : List (Ix P0)} (h : BlkI R s X L j) (hX : X.Pairwise Q) (hL : L = A ++ (M ++ B)) (ha : A.length = j * s) : M.Pairwise Q := by
  have h1 := h.rest
  rw [hL, ← ha, List.drop_left] at h1
  have h2 := hX.sublist (List.drop_sublist A.length X)
  rw [← h1] at h2
  exact (List.pairwise_append.1 h2).1
theorem SyD.keep {R : Ix P0 → Ix P0 → Prop} {X L : List (Ix P0)} (h : SyD R X L) : L.length = X.length := h.1.length_eq
set_option maxHeartbeats 1000000 in
theorem stableW (key : Ix P0 → Int) (gb : Nat) (X : List (Ix P0)) (g n c B0 : Nat) (w : World) (hc : CmpF key gb B0 w) (hX : X.Pairwise (OrdQ key (slR key))) (hB0 : B0 ≤ w.heap.size) (hg0 : B0 ≤ g) (hn1 : 1 ≤ n) (hn : n ≤ 30000) (ho : Ow eF 1 w B0 2 (.slice (some ⟨g, 0, none⟩) n c) n X) :
    Calls Tryz.prog 98 #[.slice (some ⟨g, 0, none⟩) n c, .int .i64 n, .func (.func 95) #[] #[.pointer (some ⟨gb, 0, none⟩)]] w fun e w' => e = .returned (.tuple #[]) ∧ ∃ L, SyD (slR key) X L ∧ Ow eF 1 w' B0 2 (.slice (some ⟨g, 0, none⟩) n c) n L ∧ Below B0 w w' := by
  have HX := Lib.hid (ho.len eF_len (by decide))
  have HO := Lib.hid ho
  have HC := Lib.hid hc
  have HXP := Lib.hid hX
  clear ho hc hX
  go_enter Tryz.func98, Tryz.ntmps98
  go_wp2_with fail
  go_loopw [7, 8] (fun va vb wr => ∃ (j aj bj : Nat) (L : List (Ix P0)), Hid (j * 20 = aj) ∧ aj + 20 = bj ∧ aj ≤ n ∧ va = .int .i64 (aj : Int) ∧ vb = .int .i64 (bj : Int) ∧ Hid (BlkI (slR key) 20 X L j) ∧ Hid (Ow eF 1 wr B0 2 (.slice (some ⟨g, 0, none⟩) n c) n L) ∧ Hid (Below B0 w wr)) (fun _ vb _ => n + 20 - (intOf vb).toNat)
  case atStart => exact ⟨0, 0, 20, X, Lib.hid rfl, rfl, Nat.zero_le _, rfl, rfl, Lib.hid (BlkI.zero (slR key) 20 X), HO, Lib.hid (Below.refl _ _)⟩
  case round =>
    obtain ⟨j, aj, bj, L, HJ, hab, han, rfl, rfl, HI, HOk, HBk⟩ := hrel
    obtain ⟨wq, hwq⟩ : ∃ wx, wx = wr := ⟨_, rfl⟩
    subst hwq
    have hLl := HOk.out.len eF_len (by decide)
    have hs0 : B0 ≤ wq.heap.size := Nat.le_trans hB0 HBk.out.size
    by_cases hlt : bj ≤ n
    · have d0 : decide ((bj : Int) ≤ (n : Int)) = true := decide_eq_true (by omega)
      have d0n : decide (bj ≤ n) = true := decide_eq_true hlt
      have iz : IntKind.i64.wrap ((bj : Int) + 20) = (bj : Int) + 20 := IntWalk.i64_in _ (by omega)
      obtain ⟨A, M, B, hL, hA, hM, hB⟩ := cut3 (L := L) (p := aj) (k := 20) (by omega)
      have CI := Lib.hid (insW key gb A M B g n c B0 aj bj wq (HC.out.below HBk.out) (HI.out.mid HXP.out hL (by rw [hA]; exact HJ.out.symm)) hs0 hg0 (by omega) hA (by omega) (by rw [← hL]; exact HOk.out))
      have HSTP := Lib.hid (fun M' (h : SyD (slR key) M M') => HI.out.step hL (by rw [hA]; exact HJ.out.symm) hM h)
      have HJ1 : Hid ((j + 1) * 20 = bj) := Lib.hid (by have h9 := HJ.out; omega)
      clear hL hA hM hB hLl
      go_wp2_with fail
      refine (CI.out).mono ?_
      rintro e w5 ⟨rfl, M', hd, ho5, hb5⟩
      have HO5 := Lib.hid ho5
      have HB5 := Lib.hid (HBk.out.trans hb5)
      have HI5 := Lib.hid (HSTP.out M' hd)
      clear ho5 hb5 hd CI HSTP
      go_wp2_with fail
      go_roundw
      case rel => exact ⟨j + 1, bj, bj + 20, _, HJ1, rfl, hlt, rfl, by go_num, HI5, HO5, HB5⟩
      case measure => simp [intOf]; omega
    · have d0 : decide ((bj : Int) ≤ (n : Int)) = false := decide_eq_false (by omega)
      have d0n : decide (bj ≤ n) = false := decide_eq_false hlt
      obtain ⟨A, M, B, hL, hA, hM, hB⟩ := cut3 (L := L) (p := aj) (k := n - aj) (by omega)
      have hB0' : B = [] := List.eq_nil_of_length_eq_zero (by omega)
      subst hB0'
      have CI := Lib.hid (insW key gb A M [] g n c B0 aj n wq (HC.out.below HBk.out) (HI.out.mid HXP.out hL (by rw [hA]; exact HJ.out.symm)) hs0 hg0 (by omega) hA (by omega) (by rw [← hL]; exact HOk.out))
      have HSTP := Lib.hid (fun M' (h : SyD (slR key) M M') => HI.out.done (by rw [hL, List.append_nil]) (by rw [hA]; exact HJ.out.symm) (by omega) h)
      clear hL hA hM hB hLl
      go_wp2_with fail
      refine (CI.out).mono ?_
      rintro e w5 ⟨rfl, M', hd, ho5, hb5⟩
      have HO5 : Hid (Ow eF 1 w5 B0 2 (.slice (some ⟨g, 0, none⟩) n c) n (A ++ M')) := Lib.hid (by have h9 := ho5; rw [List.append_nil] at h9; exact h9)
      have HB5 := Lib.hid (HBk.out.trans hb5)
      have HQ5 := Lib.hid (HSTP.out M' hd)
      clear ho5 hb5 hd CI HSTP d0 d0n hlt
      go_wp2_with fail
      go_loopw [6] (fun vs wr => ∃ (s : Nat) (L : List (Ix P0)), 20 ≤ s ∧ s ≤ 2 * n + 20 ∧ vs = .int .i64 (s : Int) ∧ Hid (BlkQ (slR key) s X L 0) ∧ Hid (Ow eF 1 wr B0 2 (.slice (some ⟨g, 0, none⟩) n c) n L) ∧ Hid (Below B0 w wr)) (fun vs _ => n - (intOf vs).toNat)
      case atStart => exact ⟨20, _, Nat.le_refl _, by omega, rfl, HQ5, HO5, HB5⟩
      case round =>
        obtain ⟨s, L2, hs1, hs2, rfl, HQ2, HOs, HBs⟩ := hrel
        obtain ⟨wp, hwp⟩ : ∃ wx, wx = wr := ⟨_, rfl⟩
        subst hwp
        by_cases hsl : s < n
        · obtain ⟨s2, hs22⟩ : ∃ z, 2 * s = z := ⟨_, rfl⟩
          have HS2 := Lib.hid hs22
          have hs2a : s2 ≤ 2 * s := by omega
          have hs2b : 2 * s ≤ s2 := by omega
          have dsl : decide ((s : Int) < (n : Int)) = true := decide_eq_true (by omega)
          have dsln : decide (s < n) = true := decide_eq_true (by omega)
          have i2 : IntKind.i64.wrap (2 * (s : Int)) = (s2 : Int) := by rw [show 2 * (s : Int) = (s2 : Int) by omega]; exact IntWalk.i64_in _ (by omega)
          have i3 : IntKind.i64.wrap ((s : Int) * 2) = (s2 : Int) := by rw [show (s : Int) * 2 = (s2 : Int) by omega]; exact IntWalk.i64_in _ (by omega)
          clear hs22
          go_wp2_with fail
          go_loopw [7, 8] (fun va vb wr => ∃ (j aj bj : Nat) (L : List (Ix P0)), Hid (j * (2 * s) = aj) ∧ aj + s2 = bj ∧ aj ≤ n ∧ va = .int .i64 (aj : Int) ∧ vb = .int .i64 (bj : Int) ∧ Hid (BlkQ (slR key) s X L j) ∧ Hid (Ow eF 1 wr B0 2 (.slice (some ⟨g, 0, none⟩) n c) n L) ∧ Hid (Below B0 w wr)) (fun _ vb _ => n + s2 - (intOf vb).toNat)
          case atStart => exact ⟨0, 0, s2, L2, Lib.hid (Nat.zero_mul _), Nat.zero_add _, Nat.zero_le _, rfl, rfl, HQ2, HOs, HBs⟩
          case round =>
            obtain ⟨j, aj, bj, L3, HJ, hab3, han3, rfl, rfl, HQ3, HO3, HB3⟩ := hrel
            obtain ⟨wm, hwm⟩ : ∃ wx, wx = wr := ⟨_, rfl⟩
            subst hwm
            have hLl := HO3.out.len eF_len (by decide)
            have hs3 : B0 ≤ wm.heap.size := Nat.le_trans hB0 HB3.out.size
            by_cases hl3 : bj ≤ n
            · have d0 : decide ((bj : Int) ≤ (n : Int)) = true := decide_eq_true (by omega)
              have d0n : decide (bj ≤ n) = true := decide_eq_true hl3
              have iz : IntKind.i64.wrap ((bj : Int) + (s2 : Int)) = (bj : Int) + (s2 : Int) := IntWalk.i64_in _ (by omega)
              obtain ⟨am, ham⟩ : ∃ z, aj + s = z := ⟨_, rfl⟩
              have iam : IntKind.i64.wrap ((aj : Int) + (s : Int)) = (am : Int) := by rw [show (aj : Int) + (s : Int) = (am : Int) by omega]; exact IntWalk.i64_in _ (by omega)
              obtain ⟨A, U, V, B, hL, hA, hU, hV, hB⟩ := blk_cut (s := s) (j := j) (m := s) (L := L3) (by rw [HJ.out]; omega) (Nat.le_refl _) (by rw [HJ.out]; omega)
              have hM := HQ3.out.mrg HXP.out hL hA hU (by omega) (.inl hV)
              have CS := Lib.hid (symW key gb (U.length + V.length) A U V B g n c B0 aj am bj wm (HC.out.below HB3.out) (Nat.le_refl _) hs3 hg0 (by omega) (by rw [hA]; exact HJ.out) (by omega) (by omega) (by omega) (by omega) hM (by rw [← hL]; exact HO3.out))
              have HSTP := Lib.hid (fun W (h : SyD (slR key) (U ++ V) W) => HQ3.out.step hL hA hU (by omega) (.inl hV) h)
              have HJ1 : Hid ((j + 1) * (2 * s) = bj) := Lib.hid (by rw [Nat.succ_mul, HJ.out, HS2.out]; exact hab3)
              clear hL hA hU hV hB hM hLl
              have ham9 : aj + s ≤ am := by omega
              clear ham
              go_wp2_with fail
              refine (CS.out).mono ?_
              rintro e w7 ⟨rfl, W, hd, ho7, hb7⟩
              have HO7 := Lib.hid ho7
              have HB7 := Lib.hid (HB3.out.trans hb7)
              have HQ7 := Lib.hid (HSTP.out W hd)
              clear ho7 hb7 hd CS HSTP
              go_wp2_with fail
              go_roundw
              case rel => exact ⟨j + 1, bj, bj + s2, _, HJ1, rfl, hl3, rfl, by go_num, HQ7, HO7, HB7⟩
              case measure => simp [intOf]; omega
            · have d0 : decide ((bj : Int) ≤ (n : Int)) = false := decide_eq_false (by omega)
              have d0n : decide (bj ≤ n) = false := decide_eq_false hl3
              obtain ⟨am, ham⟩ : ∃ z, aj + s = z := ⟨_, rfl⟩
              have iam : IntKind.i64.wrap ((aj : Int) + (s : Int)) = (am : Int) := by rw [show (aj : Int) + (s : Int) = (am : Int) by omega]; exact IntWalk.i64_in _ (by omega)
              by_cases hm : am < n
              · obtain ⟨A, U, V, B, hL, hA, hU, hV, hB⟩ := blk_cut (s := s) (j := j) (m := n - am) (L := L3) (by rw [HJ.out]; omega) (by omega) (by rw [HJ.out]; omega)
                have hBn : B = [] := List.eq_nil_of_length_eq_zero (by rw [hB, HJ.out]; omega)
                have hM := HQ3.out.mrg HXP.out hL hA hU (by omega) (.inr hBn)
                have CS := Lib.hid (symW key gb (U.length + V.length) A U V B g n c B0 aj am n wm (HC.out.below HB3.out) (Nat.le_refl _) hs3 hg0 (by omega) (by rw [hA]; exact HJ.out) (by omega) (by omega) (by omega) (by omega) hM (by rw [← hL]; exact HO3.out))
                have HSTP := Lib.hid (fun W (h : SyD (slR key) (U ++ V) W) => (HQ3.out.step hL hA hU (by omega) (.inr hBn) h).next (by rw [HX.out, Nat.succ_mul, HJ.out]; omega))
                rw [HS2.out] at HSTP
                have dam : decide ((am : Int) < (n : Int)) = true := decide_eq_true (by omega)
                have damn : decide (am < n) = true := decide_eq_true (by omega)
                have ham9 : am ≤ aj + s := by omega
                clear hL hA hU hV hB hM hLl hBn ham
                go_wp2_with fail
                refine (CS.out).mono ?_
                rintro e w7 ⟨rfl, W, hd, ho7, hb7⟩
                have HO7 := Lib.hid ho7
                have HB7 := Lib.hid (HB3.out.trans hb7)
                have HQ7 := Lib.hid (HSTP.out W hd)
                clear ho7 hb7 hd CS HSTP
                go_wp2_with fail
                go_roundw
                case rel => exact ⟨s2, _, by omega, by omega, rfl, HQ7, HO7, HB7⟩
                case measure => simp [intOf]; omega
              · have HQ7 := Lib.hid (HQ3.out.next (by rw [HX.out, HJ.out]; omega))
                rw [HS2.out] at HQ7
                have dam : decide ((am : Int) < (n : Int)) = false := decide_eq_false (by omega)
                have damn : decide (am < n) = false := decide_eq_false (by omega)
                clear ham
                go_wp2_with fail
                go_roundw
                case rel => exact ⟨s2, _, by omega, by omega, rfl, HQ7, HO3, HB3⟩
                case measure => simp [intOf]; omega
        · have HL := Lib.hid (HQ2.out.last (by rw [HX.out]; omega))
          have dsl : decide ((s : Int) < (n : Int)) = false := decide_eq_false (by omega)
          have dsln : decide (s < n) = false := decide_eq_false (by omega)
          go_wp2_with fail
          go_end0
          exact ⟨rfl, L2, HL.out, HOs.out, HBs.out⟩
set_option maxHeartbeats 1000000 in
theorem insW_none (a : Option Addr) (c : Nat) (fv : Value) (w : World) : Calls Tryz.prog 100 #[.slice a 0 c, .int .i64 0, .int .i64 0, fv] w fun e w' => e = .returned (.tuple #[]) ∧ w = w' := by
  go_enter Tryz.func100, Tryz.ntmps100
  go_wp2_with fail
  go_loopw [8] (fun i wr => i = .int .i64 1 ∧ w = wr) (fun _ _ => 0)
  case atStart => exact ⟨rfl, rfl⟩
  case round =>
    obtain ⟨rfl, rfl⟩ := hrel
    go_wp2_with fail
    go_end0
    exact ⟨rfl, rfl⟩
set_option maxHeartbeats 1000000 in
theorem stableW_none (a : Option Addr) (c : Nat) (fv : Value) (w : World) : Calls Tryz.prog 98 #[.slice a 0 c, .int .i64 0, fv] w fun e w' => e = .returned (.tuple #[]) ∧ w = w' := by
  go_enter Tryz.func98, Tryz.ntmps98
  go_wp2_with fail
  go_loopw [7, 8] (fun p q wr => p = .int .i64 0 ∧ q = .int .i64 20 ∧ w = wr) (fun _ _ _ => 0)
  case atStart => exact ⟨rfl, rfl, rfl⟩
  case round =>
    obtain ⟨rfl, rfl, rfl⟩ := hrel
    go_wp2_with fail
    refine (insW_none a c fv w).mono ?_
    rintro e w1 ⟨rfl, rfl⟩
    go_wp2_with fail
    go_loopw [6] (fun p wr => p = .int .i64 20 ∧ w = wr) (fun _ _ => 0)
    case atStart => exact ⟨rfl, rfl⟩
    case round =>
      obtain ⟨rfl, rfl⟩ := hrel
      go_wp2_with fail
      go_end0
      exact ⟨rfl, rfl⟩
/-- the stable sort of a row of numbers -/
theorem sortW (key : Ix P0 → Int) (gb : Nat) (X : List (Ix P0)) (a : Option Addr) (n c B0 : Nat) (w : World) (hc : CmpF key gb B0 w) (hX : X.Pairwise (OrdQ key (slR key))) (hB0 : B0 ≤ w.heap.size) (hn : n ≤ 30000) (ho : Ow eF 1 w B0 2 (.slice a n c) n X) :
    Calls Tryz.prog 98 #[.slice a n c, .int .i64 n, .func (.func 95) #[] #[.pointer (some ⟨gb, 0, none⟩)]] w fun e w' => e = .returned (.tuple #[]) ∧ ∃ L, SyD (slR key) X L ∧ Ow eF 1 w' B0 2 (.slice a n c) n L ∧ Below B0 w w' := by
  by_cases h0 : n = 0
  · subst h0
    have hx0 : X = [] := List.eq_nil_of_length_eq_zero (ho.len eF_len (by decide))
    subst hx0
    refine (stableW_none a c _ w).mono ?_
    rintro e w1 ⟨rfl, rfl⟩
    exact ⟨rfl, [], SyD.nil _, ho, Below.refl _ _⟩
  · obtain ⟨g, rfl, hg, _⟩ := ho.at_ (by omega)
    exact stableW key gb X g n c B0 w hc hX hB0 hg (by omega) hn ho
theorem flatF_val : ∀ L : List (Ix P0), (L.map (·.1)).flatMap eI = L.flatMap eF
  | [] => rfl
  | x :: L => by simp only [List.map_cons, List.flatMap_cons, flatF_val L]; rfl
theorem Ow.valF {w : World} {base e n : Nat} {v : Value} {L : List (Ix P0)} : Ow eI 1 w base e v n (L.map (·.1)) ↔ Ow eF 1 w base e v n L := by
  unfold Ow; rw [flatF_val]
set_option maxHeartbeats 1000000 in
/-- the stable sort of numbers of any count -/
theorem SortStable_long (key : Int → Int) (X : List Int) (a : Option Addr) (n c B0 gb : Nat) (w : World) (hB0 : B0 ≤ w.heap.size) (hn : n ≤ 30000) (hX : X.Pairwise (· < ·)) (ho : Ow eI 1 w B0 2 (.slice a n c) n X) (hc : CmpOk key X gb B0 w) :
    Calls Tryz.prog 94 #[.slice a n c, .func (.func 95) #[] #[.pointer (some ⟨gb, 0, none⟩)]] w fun e w' => e = .returned (.tuple #[]) ∧ ∃ L, SrtOf key X L ∧ Ow eI 1 w' B0 2 (.slice a n c) n L ∧ Below B0 w w' := by
  obtain ⟨Y, hY⟩ : ∃ Y : List (Ix (· ∈ X)), Y.map (·.1) = X := ⟨X.attach.map fun z => ⟨z.1, z.2⟩, by rw [List.map_map]; exact List.attach_map_subtype_val X⟩
  have hc2 : CmpF (fun x : Ix (· ∈ X) => key x.1) gb B0 w := fun x y w' hb => hc x.1 y.1 w' x.2 y.2 hb
  have hp : Y.Pairwise fun a b => a.1 < b.1 := by rw [← hY, List.pairwise_map] at hX; exact hX
  have ho2 : Ow eF 1 w B0 2 (.slice a n c) n Y := by rw [← hY] at ho; exact Ow.valF.1 ho
  have HI := Lib.hid (sortW _ gb Y a n c B0 w hc2 (ordF_all _ hp) hB0 hn ho2)
  have HY := Lib.hid hY
  clear ho hc hX hc2 hp ho2 hY
  go_enter Tryz.func94, Tryz.ntmps94
  go_wp2_with fail
  refine (HI.out).mono ?_
  rintro e w1 ⟨rfl, L, hs, ho, hb⟩
  have HS := Lib.hid hs
  have HO := Lib.hid ho
  have HB := Lib.hid hb
  clear hs ho hb HI
  go_wp2_with fail
  go_end0
  refine ⟨rfl, L.map (·.1), ⟨?_, ?_⟩, Ow.valF.2 HO.out, HB.out⟩
  · have h9 := HS.out.1.map (·.1)
    rw [HY.out] at h9
    exact h9
  · rw [List.pairwise_map]
    exact HS.out.2
end Go.Proofs.YthmiahekijeehaaGreat
