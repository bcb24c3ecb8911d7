/-
  Magnitudes, weights and models that are drawn.
-/
import Derived.Test.YtloggipjmaiegaaErr6
import Derived.Test.YtloggipjmaiegaaDrw
namespace Go.Proofs.Ytloggipjmaiegaa
open Go.RowKit
set_option maxRecDepth 100000
set_option linter.unusedVariables false
def Ml (x : Int) : Prop := -1000000 ≤ x ∧ x ≤ 1000000
/-- a drawn list of numbers -/
def DrI (C M : Nat) (w0 w : World) (b : Nat) (a : Option Addr) (n c p : Nat) (e : Ending) (w' : World) : Prop := ∃ (a' : Option Addr) (k c' : Nat) (L : List Int) (p' : Nat) (z' : Int), e = .returned (.slice a' k c') ∧ k ≤ M ∧ (∀ x ∈ L, I64 x) ∧ Ow eI 1 w' w.heap.size 2 (.slice a' k c') k L ∧ p' ≤ p + C ∧ SrcAt w0 w' b a n c p' z' ∧ But b w w'
theorem i64_lit {x : Int} (h : -9223372036854775808 ≤ x ∧ x ≤ 9223372036854775807) : I64 x := by unfold I64; omega
theorem all_snoc {α : Type} {P : α → Prop} {L : List α} {x : α} (h : ∀ y ∈ L, P y) (hx : P x) : ∀ y ∈ L ++ [x], P y := fun y hy => by
  rw [List.mem_append, List.mem_singleton] at hy
  rcases hy with hy | rfl
  · exact h y hy
  · exact hx
set_option maxHeartbeats 4000000 in
theorem l02Mags_any (w0 w : World) (b : Nat) (a : Option Addr) (n c p : Nat) (z : Int) (xs : List Int) (hp : p ≤ 600000) (hl : xs.length = n) (ho : ∀ x ∈ xs, Byt x) (hr : Rd eB 1 w0 a xs) (h : SrcAt w0 w b a n c p z) : Calls Try.prog 155 #[.pointer (some ⟨b, 0, none⟩)] w (DrI 100 101 w0 w b a n c p) := by
  obtain ⟨PB, hPB⟩ : ∃ PB, PB = p + 60 := ⟨_, rfl⟩
  have hblt := h.lt'
  have HL := Lib.hid hl
  have HO := Lib.hid ho
  have HR := Lib.hid hr
  have HS := Lib.hid h
  have HU0 : Hid (But b w w) := Lib.hid (But.refl b w)
  clear hl ho hr h
  go_enter Try.func155, Try.ntmps155
  have HO1 := Ow.built eI 1 w 2
  have hb4 := below_built w 2
  have hbl5 : b < w.heap.size := HS.out.lt'
  obtain ⟨wv2, HW3⟩ : ∃ wx, (w.alloc (.cells #[] 2)) = wx := ⟨_, rfl⟩
  rw [HW3] at HO1 hb4
  have HO1_ := Lib.hid HO1
  clear HO1
  have HO1 := HO1_
  clear HO1_
  have HW3_ := Lib.hid HW3
  clear HW3
  have HW3 := HW3_
  clear HW3_
  have hsz6 : w.heap.size ≤ wv2.heap.size := hb4.size
  have HS7 := Lib.hid (HS.out.belowN hb4 HS.out.lt')
  have HU8 := Lib.hid (HU0.out.ofN hb4 HU0.out.size)
  clear hb4
  go_upto_region 2 with (fail)
  rw [HW3.out]
  clear HW3
  go_wp2_with fail
  refine (srcPick 8 w0 _ b a n c p z xs (by omega) (by omega) (by omega) HL.out HO.out HR.out HS7.out).mono ?_
  rintro e wv10 ⟨v9, p9, z9, rfl, hv9, hx9, hp9, hs11, hu12⟩
  obtain ⟨m9, rfl⟩ : ∃ m : Nat, v9 = m := ⟨v9.toNat, by omega⟩
  have HO13 := Lib.hid (HO1.out.draw HS7.out hs11 hu12 hbl5)
  have hsz14 : w.heap.size ≤ wv10.heap.size := Nat.le_trans hsz6 hu12.size
  have HS15 := Lib.hid hs11
  have HU16 := Lib.hid (HU8.out.trans hu12)
  clear hs11 hu12
  go_wp2_with fail
  go_loopw [3, 4] (fun vo kk wr => ∃ (q N : Nat) (aO : Option Addr) (cO : Nat) (LL : List Int) (pK : Nat) (zK : Int), kk = .int .i64 q ∧ vo = .slice aO N cO ∧ N + q ≤ 8 ∧ pK + 6 * q ≤ PB ∧ Hid (∀ x ∈ LL, I64 x) ∧ Hid (Ow eI 1 wr w.heap.size 2 (.slice aO N cO) N LL) ∧ w.heap.size ≤ wr.heap.size ∧ Hid (SrcAt w0 wr b a n c pK zK) ∧ Hid (But b w wr)) (fun _ kk _ => (intOf kk).toNat)
  case atStart => exact ⟨m9, 0, _, _, [], p9, z9, by first | rfl | (simp; omega) | (congr 1; omega), rfl, by omega, by omega, Lib.hid (fun x hx => by cases hx), HO13, hsz14, HS15, HU16⟩
  case round =>
    obtain ⟨q, N, aO, cO, LL, pK, zK, rfl, rfl, hMq, hpq, HAll, HOk, hszk, HSk, HUk⟩ := hrel
    obtain ⟨wr17, hwr⟩ : ∃ wx, wx = wr := ⟨_, rfl⟩
    subst hwr
    by_cases hlt : 0 < q
    · have hd : decide (0 < (q : Int)) = true := decide_eq_true (by omega)
      have i99 : IntKind.i64.wrap ((q : Int) - 1) = ((q - 1 : Nat) : Int) := by rw [show ((q - 1 : Nat) : Int) = (q : Int) - 1 by omega]; exact IntWalk.i64_in _ (by omega)
      go_wp2_with fail
      refine (l02Bent_any w0 _ b a n c pK zK xs (by omega) HL.out HO.out HR.out HSk.out).mono ?_
      rintro e wv19 ⟨v18, p18, z18, rfl, hv18, hp18, hs20, hu21⟩
      have HO22 := Lib.hid (HOk.out.draw HSk.out hs20 hu21 hbl5)
      have hsz23 : w.heap.size ≤ wv19.heap.size := Nat.le_trans hszk hu21.size
      have HS24 := Lib.hid hs20
      have HU25 := Lib.hid (HUk.out.trans hu21)
      clear hs20 hu21
      have h63 : N + 1 ≤ maxLen := by unfold maxLen; omega
      have hby : (N + 1) * 8 ≤ 140737488355328 := by omega
      obtain ⟨ys31, hys⟩ : ∃ ys, LL ++ [(v18 : Int)] = ys := ⟨_, rfl⟩
      have HYS26 := Lib.hid hys
      clear hys
      have hsz9 : w.heap.size ≤ wv19.heap.size := hsz23
      go_wp2_with (at_builtin; refine wpl_app eI_len (by decide) _ rfl (.tmp 12) (.tmp 15) 30 rfl 2 _ 8 rfl Try.underlying30 infoI w.heap.size _ N _ rfl wv19 _ _ rfl HO22.out (v18) rfl rfl (eI_one _) h63 hby hsz9 ys31 HYS26 ?_)
      intro a29 c30 wv28 ho9 hb9 hs9
      have HO27 := Lib.hid ho9
      have hsz32 : w.heap.size ≤ wv28.heap.size := Nat.le_trans hsz23 (Nat.le_of_lt hs9)
      have HS33 := Lib.hid (HS24.out.belowN hb9 hbl5)
      have HU34 := Lib.hid (HU25.out.ofN hb9 HU0.out.size)
      clear ho9 hb9 h63 hby hsz9 hs9
      have i35 : IntKind.i64.wrap ((q : Int) - 1) = (q : Int) - 1 := IntWalk.i64_in _ (by omega)
      go_wp2_with fail
      go_roundw
      case rel => exact ⟨q - 1, N + 1, _, _, _, p18, z18, by go_num, rfl, by omega, by omega, Lib.hid (by rw [← HYS26.out]; exact all_snoc HAll.out (by unfold I64 at *; omega)), HO27, hsz32, HS33, HU34⟩
      case measure => simp [intOf]; omega
    · have hd : decide (0 < (q : Int)) = false := decide_eq_false (by omega)
      have hq0 : q = 0 := by omega
      go_wp2_with fail
      refine (srcOne 24 w0 _ b a n c pK zK xs (by omega) (by omega) (by omega) HL.out HO.out HR.out HSk.out).mono ?_
      rintro e wv37 ⟨v36, p36, z36, rfl, hp36, hs38, hu39⟩
      have HO40 := Lib.hid (HOk.out.draw HSk.out hs38 hu39 hbl5)
      have hsz41 : w.heap.size ≤ wv37.heap.size := Nat.le_trans hszk hu39.size
      have HS42 := Lib.hid hs38
      have HU43 := Lib.hid (HUk.out.trans hu39)
      clear hs38 hu39
      cases hc44 : v36 with
      | false =>
        go_wp2_with fail
        go_ret
        exact ⟨_, _, _, _, p36, z36, rfl, by omega, HAll.out, HO40.out.mono HU0.out.size, by omega, HS42.out, HU43.out⟩
      | true =>
        go_wp2_with fail
        refine (srcPick 2 w0 _ b a n c p36 z36 xs (by omega) (by omega) (by omega) HL.out HO.out HR.out HS42.out).mono ?_
        rintro e wv46 ⟨v45, p45, z45, rfl, hv45, hx45, hp45, hs47, hu48⟩
        obtain ⟨m45, rfl⟩ : ∃ m : Nat, v45 = m := ⟨v45.toNat, by omega⟩
        have HO49 := Lib.hid (HO40.out.draw HS42.out hs47 hu48 hbl5)
        have hsz50 : w.heap.size ≤ wv46.heap.size := Nat.le_trans hsz41 hu48.size
        have HS51 := Lib.hid hs47
        have HU52 := Lib.hid (HU43.out.trans hu48)
        clear hs47 hu48
        have i53 : IntKind.i64.wrap (100 + (m45 : Int)) = 100 + (m45 : Int) := IntWalk.i64_in _ (by omega)
        obtain ⟨zs56, hzs⟩ : ∃ zs : List Int, List.replicate (100 + m45) (0 : Int) = zs := ⟨_, rfl⟩
        have HZ57 := Lib.hid hzs
        clear hzs
        have hbl58 : b < wv46.heap.size := HS51.out.lt'
        go_wp2_with (at_make; refine wpl_make eI_len (by decide) _ rfl _ _ 30 rfl 2 (0 : Int) _ 8 rfl Try.underlying30 infoI .i64 .i64 _ _ (100 + m45) rfl rfl (by first | rfl | omega) (by first | rfl | omega) (by omega) (by unfold maxLen; omega) zs56 HZ57 ?_)
        intro wv55 ho9 hb9 hs9
        have HO54 := Lib.hid ho9
        clear i53
        have HS59 := Lib.hid (HS51.out.belowN hb9 HS51.out.lt')
        have HU60 := Lib.hid (HU52.out.ofN hb9 HU52.out.size)
        have HO61 := Lib.hid (HO49.out.below hb9)
        have hsz62 : w.heap.size ≤ wv55.heap.size := Nat.le_trans hsz50 (hb9).size
        have hsz63 : wv46.heap.size ≤ wv55.heap.size := Nat.le_of_lt hs9
        clear ho9 hb9 hs9
        go_wp2_with fail
        go_ret
        exact ⟨_, _, _, _, p45, z45, rfl, by omega, (by rw [← HZ57.out]; intro x hx; rw [List.eq_of_mem_replicate hx]; unfold I64; omega), HO54.out.mono HU52.out.size, by omega, HS59.out, HU60.out⟩
set_option maxHeartbeats 4000000 in
theorem l21Draw_any (w0 w : World) (b : Nat) (a : Option Addr) (n c p : Nat) (z : Int) (xs : List Int) (hp : p ≤ 500000) (hl : xs.length = n) (ho : ∀ x ∈ xs, Byt x) (hr : Rd eB 1 w0 a xs) (h : SrcAt w0 w b a n c p z) : Calls Try.prog 170 #[.pointer (some ⟨b, 0, none⟩)] w (DrI 110 101 w0 w b a n c p) := by
  obtain ⟨PB, hPB⟩ : ∃ PB, PB = p + 80 := ⟨_, rfl⟩
  have hblt := h.lt'
  have HL := Lib.hid hl
  have HO := Lib.hid ho
  have HR := Lib.hid hr
  have HS := Lib.hid h
  have HU0 : Hid (But b w w) := Lib.hid (But.refl b w)
  clear hl ho hr h
  go_enter Try.func170, Try.ntmps170
  go_wp2_with fail
  refine (srcOne 5 w0 _ b a n c p z xs (by omega) (by omega) (by omega) HL.out HO.out HR.out HS.out).mono ?_
  rintro e wv2 ⟨v1, p1, z1, rfl, hp1, hs3, hu4⟩
  have HS5 := Lib.hid hs3
  have HU6 := Lib.hid (HU0.out.trans hu4)
  clear hs3 hu4
  cases hc7 : v1 with
  | false =>
    have HO8 := Ow.built eI 1 wv2 2
    have hb11 := below_built wv2 2
    have hbl12 : b < wv2.heap.size := HS5.out.lt'
    obtain ⟨wv9, HW10⟩ : ∃ wx, (wv2.alloc (.cells #[] 2)) = wx := ⟨_, rfl⟩
    rw [HW10] at HO8 hb11
    have HO8_ := Lib.hid HO8
    clear HO8
    have HO8 := HO8_
    clear HO8_
    have HW10_ := Lib.hid HW10
    clear HW10
    have HW10 := HW10_
    clear HW10_
    have hsz13 : wv2.heap.size ≤ wv9.heap.size := hb11.size
    have HS14 := Lib.hid (HS5.out.belowN hb11 HS5.out.lt')
    have HU15 := Lib.hid (HU6.out.ofN hb11 HU6.out.size)
    clear hb11
    go_upto_region 4 with (fail)
    rw [HW10.out]
    clear HW10
    go_wp2_with fail
    refine (srcPick 30 w0 _ b a n c p1 z1 xs (by omega) (by omega) (by omega) HL.out HO.out HR.out HS14.out).mono ?_
    rintro e wv17 ⟨v16, p16, z16, rfl, hv16, hx16, hp16, hs18, hu19⟩
    obtain ⟨m16, rfl⟩ : ∃ m : Nat, v16 = m := ⟨v16.toNat, by omega⟩
    have HO20 := Lib.hid (HO8.out.draw HS14.out hs18 hu19 hbl12)
    have hsz21 : wv2.heap.size ≤ wv17.heap.size := Nat.le_trans hsz13 hu19.size
    have HS22 := Lib.hid hs18
    have HU23 := Lib.hid (HU15.out.trans hu19)
    clear hs18 hu19
    have i24 : IntKind.i64.wrap (100 * (m16 : Int)) = 100 * (m16 : Int) := IntWalk.i64_in _ (by omega)
    have i25 : IntKind.i64.wrap (8000 + (100 * (m16 : Int))) = 8000 + (100 * (m16 : Int)) := IntWalk.i64_in _ (by omega)
    go_wp2_with fail
    refine (srcPick 9 w0 _ b a n c p16 z16 xs (by omega) (by omega) (by omega) HL.out HO.out HR.out HS22.out).mono ?_
    rintro e wv27 ⟨v26, p26, z26, rfl, hv26, hx26, hp26, hs28, hu29⟩
    clear i24 i25
    obtain ⟨m26, rfl⟩ : ∃ m : Nat, v26 = m := ⟨v26.toNat, by omega⟩
    have HO30 := Lib.hid (HO20.out.draw HS22.out hs28 hu29 hbl12)
    have hsz31 : wv2.heap.size ≤ wv27.heap.size := Nat.le_trans hsz21 hu29.size
    have HS32 := Lib.hid hs28
    have HU33 := Lib.hid (HU23.out.trans hu29)
    clear hs28 hu29
    have i34 : IntKind.i64.wrap (1 + (m26 : Int)) = 1 + (m26 : Int) := IntWalk.i64_in _ (by omega)
    go_wp2_with fail
    go_loopw [3, 5] (fun vo kk wr => ∃ (q N : Nat) (aO : Option Addr) (cO : Nat) (LL : List Int) (pK : Nat) (zK : Int), kk = .int .i64 q ∧ vo = .slice aO N cO ∧ N + q ≤ 9 ∧ pK + 6 * q ≤ PB ∧ Hid (∀ x ∈ LL, I64 x) ∧ Hid (Ow eI 1 wr wv2.heap.size 2 (.slice aO N cO) N LL) ∧ wv2.heap.size ≤ wr.heap.size ∧ Hid (SrcAt w0 wr b a n c pK zK) ∧ Hid (But b w wr)) (fun _ kk _ => (intOf kk).toNat)
    case atStart => exact ⟨1 + m26, 0, _, _, [], p26, z26, by first | rfl | (simp; omega) | (congr 1; omega), rfl, by omega, by omega, Lib.hid (fun x hx => by cases hx), HO30, hsz31, HS32, HU33⟩
    case round =>
      obtain ⟨q, N, aO, cO, LL, pK, zK, rfl, rfl, hMq, hpq, HAll, HOk, hszk, HSk, HUk⟩ := hrel
      obtain ⟨wr35, hwr⟩ : ∃ wx, wx = wr := ⟨_, rfl⟩
      subst hwr
      by_cases hlt : 0 < q
      · have hd : decide (0 < (q : Int)) = true := decide_eq_true (by omega)
        have i99 : IntKind.i64.wrap ((q : Int) - 1) = ((q - 1 : Nat) : Int) := by rw [show ((q - 1 : Nat) : Int) = (q : Int) - 1 by omega]; exact IntWalk.i64_in _ (by omega)
        go_wp2_with fail
        refine (srcPick 15 w0 _ b a n c pK zK xs (by omega) (by omega) (by omega) HL.out HO.out HR.out HSk.out).mono ?_
        rintro e wv37 ⟨v36, p36, z36, rfl, hv36, hx36, hp36, hs38, hu39⟩
        obtain ⟨m36, rfl⟩ : ∃ m : Nat, v36 = m := ⟨v36.toNat, by omega⟩
        have HO40 := Lib.hid (HOk.out.draw HSk.out hs38 hu39 hbl12)
        have hsz41 : wv2.heap.size ≤ wv37.heap.size := Nat.le_trans hszk hu39.size
        have HS42 := Lib.hid hs38
        have HU43 := Lib.hid (HUk.out.trans hu39)
        clear hs38 hu39
        have i44 : IntKind.i64.wrap (10 * (m36 : Int)) = 10 * (m36 : Int) := IntWalk.i64_in _ (by omega)
        have i45 : IntKind.i64.wrap ((8000 + (100 * (m16 : Int))) + (10 * (m36 : Int))) = (8000 + (100 * (m16 : Int))) + (10 * (m36 : Int)) := IntWalk.i64_in _ (by omega)
        have i46 : IntKind.i64.wrap (((8000 + (100 * (m16 : Int))) + (10 * (m36 : Int))) - 70) = ((8000 + (100 * (m16 : Int))) + (10 * (m36 : Int))) - 70 := IntWalk.i64_in _ (by omega)
        go_wp2_with fail
        refine (srcOne 6 w0 _ b a n c p36 z36 xs (by omega) (by omega) (by omega) HL.out HO.out HR.out HS42.out).mono ?_
        rintro e wv48 ⟨v47, p47, z47, rfl, hp47, hs49, hu50⟩
        clear i44 i45 i46
        have HO51 := Lib.hid (HO40.out.draw HS42.out hs49 hu50 hbl12)
        have hsz52 : wv2.heap.size ≤ wv48.heap.size := Nat.le_trans hsz41 hu50.size
        have HS53 := Lib.hid hs49
        have HU54 := Lib.hid (HU43.out.trans hu50)
        clear hs49 hu50
        cases hc55 : v47 with
        | false =>
          have h63 : N + 1 ≤ maxLen := by unfold maxLen; omega
          have hby : (N + 1) * 8 ≤ 140737488355328 := by omega
          obtain ⟨ys61, hys⟩ : ∃ ys, LL ++ [(((8000 + (100 * (m16 : Int))) + (10 * (m36 : Int))) - 70 : Int)] = ys := ⟨_, rfl⟩
          have HYS56 := Lib.hid hys
          clear hys
          have hsz9 : wv2.heap.size ≤ wv48.heap.size := hsz52
          go_wp2_with (at_builtin; refine wpl_app eI_len (by decide) _ rfl (.tmp 37) (.tmp 39) 30 rfl 2 _ 8 rfl Try.underlying30 infoI wv2.heap.size _ N _ rfl wv48 _ _ rfl HO51.out (((8000 + (100 * (m16 : Int))) + (10 * (m36 : Int))) - 70) rfl rfl (eI_one _) h63 hby hsz9 ys61 HYS56 ?_)
          intro a59 c60 wv58 ho9 hb9 hs9
          have HO57 := Lib.hid ho9
          have hsz62 : wv2.heap.size ≤ wv58.heap.size := Nat.le_trans hsz52 (Nat.le_of_lt hs9)
          have HS63 := Lib.hid (HS53.out.belowN hb9 hbl12)
          have HU64 := Lib.hid (HU54.out.ofN hb9 HU6.out.size)
          clear ho9 hb9 h63 hby hsz9 hs9
          have i65 : IntKind.i64.wrap ((q : Int) - 1) = (q : Int) - 1 := IntWalk.i64_in _ (by omega)
          go_wp2_with fail
          go_roundw
          case rel => exact ⟨q - 1, N + 1, _, _, _, p47, z47, by go_num, rfl, by omega, by omega, Lib.hid (by rw [← HYS56.out]; exact all_snoc HAll.out (by unfold I64 at *; omega)), HO57, hsz62, HS63, HU64⟩
          case measure => simp [intOf]; omega
        | true =>
          go_wp2_with fail
          refine (srcPick 40 w0 _ b a n c p47 z47 xs (by omega) (by omega) (by omega) HL.out HO.out HR.out HS53.out).mono ?_
          rintro e wv67 ⟨v66, p66, z66, rfl, hv66, hx66, hp66, hs68, hu69⟩
          obtain ⟨m66, rfl⟩ : ∃ m : Nat, v66 = m := ⟨v66.toNat, by omega⟩
          have HO70 := Lib.hid (HO51.out.draw HS53.out hs68 hu69 hbl12)
          have hsz71 : wv2.heap.size ≤ wv67.heap.size := Nat.le_trans hsz52 hu69.size
          have HS72 := Lib.hid hs68
          have HU73 := Lib.hid (HU54.out.trans hu69)
          clear hs68 hu69
          have i74 : IntKind.i64.wrap (100 * (m66 : Int)) = 100 * (m66 : Int) := IntWalk.i64_in _ (by omega)
          have i75 : IntKind.i64.wrap ((8000 + (100 * (m16 : Int))) + (100 * (m66 : Int))) = (8000 + (100 * (m16 : Int))) + (100 * (m66 : Int)) := IntWalk.i64_in _ (by omega)
          have i76 : IntKind.i64.wrap (((8000 + (100 * (m16 : Int))) + (100 * (m66 : Int))) - 2000) = ((8000 + (100 * (m16 : Int))) + (100 * (m66 : Int))) - 2000 := IntWalk.i64_in _ (by omega)
          have h63 : N + 1 ≤ maxLen := by unfold maxLen; omega
          have hby : (N + 1) * 8 ≤ 140737488355328 := by omega
          obtain ⟨ys82, hys⟩ : ∃ ys, LL ++ [(((8000 + (100 * (m16 : Int))) + (100 * (m66 : Int))) - 2000 : Int)] = ys := ⟨_, rfl⟩
          have HYS77 := Lib.hid hys
          clear hys
          have hsz9 : wv2.heap.size ≤ wv67.heap.size := hsz71
          go_wp2_with (at_builtin; refine wpl_app eI_len (by decide) _ rfl (.tmp 37) (.tmp 39) 30 rfl 2 _ 8 rfl Try.underlying30 infoI wv2.heap.size _ N _ rfl wv67 _ _ rfl HO70.out (((8000 + (100 * (m16 : Int))) + (100 * (m66 : Int))) - 2000) rfl rfl (eI_one _) h63 hby hsz9 ys82 HYS77 ?_)
          intro a80 c81 wv79 ho9 hb9 hs9
          have HO78 := Lib.hid ho9
          have hsz83 : wv2.heap.size ≤ wv79.heap.size := Nat.le_trans hsz71 (Nat.le_of_lt hs9)
          have HS84 := Lib.hid (HS72.out.belowN hb9 hbl12)
          have HU85 := Lib.hid (HU73.out.ofN hb9 HU6.out.size)
          clear i74 i75 i76
          clear ho9 hb9 h63 hby hsz9 hs9
          have i86 : IntKind.i64.wrap ((q : Int) - 1) = (q : Int) - 1 := IntWalk.i64_in _ (by omega)
          go_wp2_with fail
          go_roundw
          case rel => exact ⟨q - 1, N + 1, _, _, _, p66, z66, by go_num, rfl, by omega, by omega, Lib.hid (by rw [← HYS77.out]; exact all_snoc HAll.out (by unfold I64 at *; omega)), HO78, hsz83, HS84, HU85⟩
          case measure => simp [intOf]; omega
      · have hd : decide (0 < (q : Int)) = false := decide_eq_false (by omega)
        have hq0 : q = 0 := by omega
        go_wp2_with fail
        go_ret
        exact ⟨_, _, _, _, pK, zK, rfl, by omega, HAll.out, HOk.out.mono HU6.out.size, by omega, HSk.out, HUk.out⟩
  | true =>
    go_wp2_with fail
    have hbl87 : b < wv2.heap.size := HS5.out.lt'
    refine (l02Mags_any w0 _ b a n c p1 z1 xs (by omega) HL.out HO.out HR.out HS5.out).mono ?_
    rintro e wv88 ⟨a87, k87, c87, L87, p87, z87, rfl, hk87, hP87, ho87, hp87, hs89, hu90⟩
    have HO87 := Lib.hid ho87
    clear ho87
    have hsz87 : wv2.heap.size ≤ wv88.heap.size := hu90.size
    have HS91 := Lib.hid hs89
    have HU92 := Lib.hid (HU6.out.trans hu90)
    clear hs89 hu90
    go_wp2_with fail
    go_ret
    exact ⟨_, _, _, _, p87, z87, rfl, by omega, hP87, HO87.out.mono HU6.out.size, by omega, HS91.out, HU92.out⟩
set_option maxHeartbeats 4000000 in
theorem l21DrawWeights_any (w0 w : World) (b : Nat) (a : Option Addr) (n c p : Nat) (z : Int) (xs : List Int) (m : Nat) (hm : m ≤ 101) (hp : p ≤ 400000) (hl : xs.length = n) (ho : ∀ x ∈ xs, Byt x) (hr : Rd eB 1 w0 a xs) (h : SrcAt w0 w b a n c p z) : Calls Try.prog 171 #[.pointer (some ⟨b, 0, none⟩), .int .i64 ((m : Int))] w (DrI 2000 (m + 1) w0 w b a n c p) := by
  obtain ⟨PB, hPB⟩ : ∃ PB, PB = p + 2 * m + 10 := ⟨_, rfl⟩
  have hblt := h.lt'
  have HL := Lib.hid hl
  have HO := Lib.hid ho
  have HR := Lib.hid hr
  have HS := Lib.hid h
  have HU0 : Hid (But b w w) := Lib.hid (But.refl b w)
  clear hl ho hr h
  go_enter Try.func171, Try.ntmps171
  have HO1 := Ow.built eI 1 w 2
  have hb4 := below_built w 2
  have hbl5 : b < w.heap.size := HS.out.lt'
  obtain ⟨wv2, HW3⟩ : ∃ wx, (w.alloc (.cells #[] 2)) = wx := ⟨_, rfl⟩
  rw [HW3] at HO1 hb4
  have HO1_ := Lib.hid HO1
  clear HO1
  have HO1 := HO1_
  clear HO1_
  have HW3_ := Lib.hid HW3
  clear HW3
  have HW3 := HW3_
  clear HW3_
  have hsz6 : w.heap.size ≤ wv2.heap.size := hb4.size
  have HS7 := Lib.hid (HS.out.belowN hb4 HS.out.lt')
  have HU8 := Lib.hid (HU0.out.ofN hb4 HU0.out.size)
  clear hb4
  go_upto_region 2 with (fail)
  rw [HW3.out]
  clear HW3
  go_wp2_with fail
  go_loopw [5, 6] (fun vo kk wr => ∃ (q : Nat) (aO : Option Addr) (cO : Nat) (LL : List Int) (pK : Nat) (zK : Int), kk = .int .i64 q ∧ vo = .slice aO q cO ∧ q ≤ m ∧ pK + 2 * (m - q) ≤ PB ∧ Hid (∀ x ∈ LL, I64 x) ∧ Hid (Ow eI 1 wr w.heap.size 2 (.slice aO q cO) q LL) ∧ w.heap.size ≤ wr.heap.size ∧ Hid (SrcAt w0 wr b a n c pK zK) ∧ Hid (But b w wr)) (fun _ kk _ => m - (intOf kk).toNat)
  case atStart => exact ⟨0, _, _, [], p, z, rfl, rfl, Nat.zero_le _, by omega, Lib.hid (fun x hx => by cases hx), HO1, hsz6, HS7, HU8⟩
  case round =>
    obtain ⟨q, aO, cO, LL, pK, zK, rfl, rfl, hMq, hpq, HAll, HOk, hszk, HSk, HUk⟩ := hrel
    obtain ⟨wr9, hwr⟩ : ∃ wx, wx = wr := ⟨_, rfl⟩
    subst hwr
    by_cases hlt : q < m
    · have hd : decide ((q : Int) < (m : Int)) = true := decide_eq_true (by omega)
      go_wp2_with fail
      refine (srcPick 8 w0 _ b a n c pK zK xs (by omega) (by omega) (by omega) HL.out HO.out HR.out HSk.out).mono ?_
      rintro e wv11 ⟨v10, p10, z10, rfl, hv10, hx10, hp10, hs12, hu13⟩
      obtain ⟨m10, rfl⟩ : ∃ m : Nat, v10 = m := ⟨v10.toNat, by omega⟩
      have HO14 := Lib.hid (HOk.out.draw HSk.out hs12 hu13 hbl5)
      have hsz15 : w.heap.size ≤ wv11.heap.size := Nat.le_trans hszk hu13.size
      have HS16 := Lib.hid hs12
      have HU17 := Lib.hid (HUk.out.trans hu13)
      clear hs12 hu13
      have h63 : q + 1 ≤ maxLen := by unfold maxLen; omega
      have hby : (q + 1) * 8 ≤ 140737488355328 := by omega
      obtain ⟨ys23, hys⟩ : ∃ ys, LL ++ [((m10 : Int) : Int)] = ys := ⟨_, rfl⟩
      have HYS18 := Lib.hid hys
      clear hys
      have hsz9 : w.heap.size ≤ wv11.heap.size := hsz15
      go_wp2_with (at_builtin; refine wpl_app eI_len (by decide) _ rfl (.tmp 13) (.tmp 16) 30 rfl 2 _ 8 rfl Try.underlying30 infoI w.heap.size _ q _ rfl wv11 _ _ rfl HO14.out ((m10 : Int)) rfl rfl (eI_one _) h63 hby hsz9 ys23 HYS18 ?_)
      intro a21 c22 wv20 ho9 hb9 hs9
      have HO19 := Lib.hid ho9
      have hsz24 : w.heap.size ≤ wv20.heap.size := Nat.le_trans hsz15 (Nat.le_of_lt hs9)
      have HS25 := Lib.hid (HS16.out.belowN hb9 hbl5)
      have HU26 := Lib.hid (HU17.out.ofN hb9 HU0.out.size)
      clear ho9 hb9 h63 hby hsz9 hs9
      have i27 : IntKind.i64.wrap ((q : Int) + 1) = (q : Int) + 1 := IntWalk.i64_in _ (by omega)
      go_wp2_with fail
      go_roundw
      case rel => exact ⟨q + 1, _, _, _, p10, z10, by go_num, rfl, by omega, by omega, Lib.hid (by rw [← HYS18.out]; exact all_snoc HAll.out (by unfold I64 at *; omega)), HO19, hsz24, HS25, HU26⟩
      case measure => simp [intOf]; omega
    · have hd : decide ((q : Int) < (m : Int)) = false := decide_eq_false (by omega)
      obtain rfl : m = q := by omega
      go_wp2_with fail
      refine (srcOne 10 w0 _ b a n c pK zK xs (by omega) (by omega) (by omega) HL.out HO.out HR.out HSk.out).mono ?_
      rintro e wv29 ⟨v28, p28, z28, rfl, hp28, hs30, hu31⟩
      have HO32 := Lib.hid (HOk.out.draw HSk.out hs30 hu31 hbl5)
      have hsz33 : w.heap.size ≤ wv29.heap.size := Nat.le_trans hszk hu31.size
      have HS34 := Lib.hid hs30
      have HU35 := Lib.hid (HUk.out.trans hu31)
      clear hs30 hu31
      cases hc36 : v28 with
      | false =>
        by_cases hc37 : 0 < (m : Int)
        · have d38 : decide (0 < (m : Int)) = true := decide_eq_true hc37
          go_wp2_with fail
          refine (srcOne 12 w0 _ b a n c p28 z28 xs (by omega) (by omega) (by omega) HL.out HO.out HR.out HS34.out).mono ?_
          rintro e wv40 ⟨v39, p39, z39, rfl, hp39, hs41, hu42⟩
          have HO43 := Lib.hid (HO32.out.draw HS34.out hs41 hu42 hbl5)
          have hsz44 : w.heap.size ≤ wv40.heap.size := Nat.le_trans hsz33 hu42.size
          have HS45 := Lib.hid hs41
          have HU46 := Lib.hid (HU35.out.trans hu42)
          clear hs41 hu42
          cases hc47 : v39 with
          | false =>
            go_wp2_with fail
            refine (srcOne 16 w0 _ b a n c p39 z39 xs (by omega) (by omega) (by omega) HL.out HO.out HR.out HS45.out).mono ?_
            rintro e wv49 ⟨v48, p48, z48, rfl, hp48, hs50, hu51⟩
            have HO52 := Lib.hid (HO43.out.draw HS45.out hs50 hu51 hbl5)
            have hsz53 : w.heap.size ≤ wv49.heap.size := Nat.le_trans hsz44 hu51.size
            have HS54 := Lib.hid hs50
            have HU55 := Lib.hid (HU46.out.trans hu51)
            clear hs50 hu51
            cases hc56 : v48 with
            | false =>
              go_wp2_with fail
              go_ret
              exact ⟨_, _, _, _, p48, z48, rfl, by omega, HAll.out, HO52.out.mono HU0.out.size, by omega, HS54.out, HU55.out⟩
            | true =>
              have h63 : m + 1 ≤ maxLen := by unfold maxLen; omega
              have hby : (m + 1) * 8 ≤ 140737488355328 := by omega
              obtain ⟨ys62, hys⟩ : ∃ ys, LL ++ [(1 : Int)] = ys := ⟨_, rfl⟩
              have HYS57 := Lib.hid hys
              clear hys
              have hsz9 : w.heap.size ≤ wv49.heap.size := hsz53
              go_wp2_with (at_builtin; refine wpl_app eI_len (by decide) _ rfl (.tmp 35) (.tmp 36) 30 rfl 2 _ 8 rfl Try.underlying30 infoI w.heap.size _ m _ rfl wv49 _ _ rfl HO52.out (1) rfl rfl (eI_one _) h63 hby hsz9 ys62 HYS57 ?_)
              intro a60 c61 wv59 ho9 hb9 hs9
              have HO58 := Lib.hid ho9
              have hsz63 : w.heap.size ≤ wv59.heap.size := Nat.le_trans hsz53 (Nat.le_of_lt hs9)
              have HS64 := Lib.hid (HS54.out.belowN hb9 hbl5)
              have HU65 := Lib.hid (HU55.out.ofN hb9 HU0.out.size)
              clear ho9 hb9 h63 hby hsz9 hs9
              go_wp2_with fail
              go_ret
              exact ⟨_, _, _, _, p48, z48, rfl, by omega, (by rw [← HYS57.out]; exact all_snoc HAll.out (by unfold I64; omega)), HO58.out.mono HU0.out.size, by omega, HS64.out, HU65.out⟩
          | true =>
            go_wp2_with fail
            have hC66 := CAt.new wv40 #[.int .i64 ((-1)), .int .i64 0, .int .i64 100, .int .i64 101] 2
            have hSA66 := HS45.out.alloc' (.cells #[.int .i64 ((-1)), .int .i64 0, .int .i64 100, .int .i64 101] 2)
            have hBA66 := (Below.refl wv40.heap.size wv40).alloc (Nat.le_refl _) (.cells #[.int .i64 ((-1)), .int .i64 0, .int .i64 100, .int .i64 101] 2)
            have hlx66 := HS45.out.lt'
            refine (srcAmong [(-1), 0, 100, 101] wv40.heap.size 4 2 w0 _ b a n c p39 z39 xs (by omega) (by omega) rfl hC66 (by omega) (by omega) HL.out HO.out HR.out hSA66).mono ?_
            rintro e wv66 ⟨v66, p66, z66, rfl, hv66, hp66, hs66, hu66⟩
            have HO67 := Lib.hid ((HO43.out.below hBA66).draw hSA66 hs66 hu66 hbl5)
            have hsz68 : w.heap.size ≤ wv66.heap.size := Nat.le_trans hsz44 (Nat.le_trans hBA66.size hu66.size)
            have HS66 := Lib.hid hs66
            have HU66 := Lib.hid ((HU46.out.ofN hBA66 HU46.out.size).trans hu66)
            simp only [List.mem_cons, List.not_mem_nil, or_false] at hv66
            clear hC66 hSA66 hBA66 hs66 hu66 hlx66
            obtain ⟨g69, rfl, hg0, hg1⟩ := HO67.out.at_ (by omega)
            obtain ⟨ys72, hys⟩ : ∃ ys, (LL).set 0 v66 = ys := ⟨_, rfl⟩
            have HY71 := Lib.hid hys
            clear hys
            have hlq : 0 < m := by omega
            go_wp2_with (with_reducible refine wpl_set eI_len (by decide) _ rfl 2 (.tmp 32) (.tmp 31) rfl g69 0 rfl _ rfl v66 rfl ?s1 (eI_one _) w.heap.size 2 m cO 0 _ HO67.out hlq (by first | rfl | simp) w.heap.size hg0 hsz68 _ HY71 ?_)
            case s1 => kernel_rfl
            intro wv73 ho9 hb9 _
            have HO70 := Lib.hid ho9
            have hsz74 : w.heap.size ≤ wv73.heap.size := Nat.le_trans hsz68 hb9.size
            have HS75 := Lib.hid (HS66.out.belowN hb9 hbl5)
            have HU76 := Lib.hid (HU66.out.ofN hb9 HU0.out.size)
            clear ho9 hb9 hlq
            go_wp2_with fail
            refine (srcOne 16 w0 _ b a n c p66 z66 xs (by omega) (by omega) (by omega) HL.out HO.out HR.out HS75.out).mono ?_
            rintro e wv78 ⟨v77, p77, z77, rfl, hp77, hs79, hu80⟩
            have HO81 := Lib.hid (HO70.out.draw HS75.out hs79 hu80 hbl5)
            have hsz82 : w.heap.size ≤ wv78.heap.size := Nat.le_trans hsz74 hu80.size
            have HS83 := Lib.hid hs79
            have HU84 := Lib.hid (HU76.out.trans hu80)
            clear hs79 hu80
            cases hc85 : v77 with
            | false =>
              go_wp2_with fail
              go_ret
              exact ⟨_, _, _, _, p77, z77, rfl, by omega, (by rw [← HY71.out]; have hh : ∀ y ∈ LL, I64 y := HAll.out; intro x hx; rcases List.mem_or_eq_of_mem_set hx with hx | hx; exact hh x hx; rw [hx]; unfold I64; omega), HO81.out.mono HU0.out.size, by omega, HS83.out, HU84.out⟩
            | true =>
              have h63 : m + 1 ≤ maxLen := by unfold maxLen; omega
              have hby : (m + 1) * 8 ≤ 140737488355328 := by omega
              obtain ⟨ys91, hys⟩ : ∃ ys, ys72 ++ [(1 : Int)] = ys := ⟨_, rfl⟩
              have HYS86 := Lib.hid hys
              clear hys
              have hsz9 : w.heap.size ≤ wv78.heap.size := hsz82
              go_wp2_with (at_builtin; refine wpl_app eI_len (by decide) _ rfl (.tmp 35) (.tmp 36) 30 rfl 2 _ 8 rfl Try.underlying30 infoI w.heap.size _ m _ rfl wv78 _ _ rfl HO81.out (1) rfl rfl (eI_one _) h63 hby hsz9 ys91 HYS86 ?_)
              intro a89 c90 wv88 ho9 hb9 hs9
              have HO87 := Lib.hid ho9
              have hsz92 : w.heap.size ≤ wv88.heap.size := Nat.le_trans hsz82 (Nat.le_of_lt hs9)
              have HS93 := Lib.hid (HS83.out.belowN hb9 hbl5)
              have HU94 := Lib.hid (HU84.out.ofN hb9 HU0.out.size)
              clear ho9 hb9 h63 hby hsz9 hs9
              go_wp2_with fail
              go_ret
              exact ⟨_, _, _, _, p77, z77, rfl, by omega, (by rw [← HYS86.out]; exact all_snoc (by rw [← HY71.out]; have hh : ∀ y ∈ LL, I64 y := HAll.out; intro x hx; rcases List.mem_or_eq_of_mem_set hx with hx | hx; exact hh x hx; rw [hx]; unfold I64; omega) (by unfold I64; omega)), HO87.out.mono HU0.out.size, by omega, HS93.out, HU94.out⟩
        · have d95 : decide (0 < (m : Int)) = false := decide_eq_false hc37
          go_wp2_with fail
          refine (srcOne 16 w0 _ b a n c p28 z28 xs (by omega) (by omega) (by omega) HL.out HO.out HR.out HS34.out).mono ?_
          rintro e wv97 ⟨v96, p96, z96, rfl, hp96, hs98, hu99⟩
          have HO100 := Lib.hid (HO32.out.draw HS34.out hs98 hu99 hbl5)
          have hsz101 : w.heap.size ≤ wv97.heap.size := Nat.le_trans hsz33 hu99.size
          have HS102 := Lib.hid hs98
          have HU103 := Lib.hid (HU35.out.trans hu99)
          clear hs98 hu99
          cases hc104 : v96 with
          | false =>
            go_wp2_with fail
            go_ret
            exact ⟨_, _, _, _, p96, z96, rfl, by omega, HAll.out, HO100.out.mono HU0.out.size, by omega, HS102.out, HU103.out⟩
          | true =>
            have h63 : m + 1 ≤ maxLen := by unfold maxLen; omega
            have hby : (m + 1) * 8 ≤ 140737488355328 := by omega
            obtain ⟨ys110, hys⟩ : ∃ ys, LL ++ [(1 : Int)] = ys := ⟨_, rfl⟩
            have HYS105 := Lib.hid hys
            clear hys
            have hsz9 : w.heap.size ≤ wv97.heap.size := hsz101
            go_wp2_with (at_builtin; refine wpl_app eI_len (by decide) _ rfl (.tmp 35) (.tmp 36) 30 rfl 2 _ 8 rfl Try.underlying30 infoI w.heap.size _ m _ rfl wv97 _ _ rfl HO100.out (1) rfl rfl (eI_one _) h63 hby hsz9 ys110 HYS105 ?_)
            intro a108 c109 wv107 ho9 hb9 hs9
            have HO106 := Lib.hid ho9
            have hsz111 : w.heap.size ≤ wv107.heap.size := Nat.le_trans hsz101 (Nat.le_of_lt hs9)
            have HS112 := Lib.hid (HS102.out.belowN hb9 hbl5)
            have HU113 := Lib.hid (HU103.out.ofN hb9 HU0.out.size)
            clear ho9 hb9 h63 hby hsz9 hs9
            go_wp2_with fail
            go_ret
            exact ⟨_, _, _, _, p96, z96, rfl, by omega, (by rw [← HYS105.out]; exact all_snoc HAll.out (by unfold I64; omega)), HO106.out.mono HU0.out.size, by omega, HS112.out, HU113.out⟩
      | true =>
        obtain ⟨zs116, hzs⟩ : ∃ zs : List Int, List.replicate m (0 : Int) = zs := ⟨_, rfl⟩
        have HZ117 := Lib.hid hzs
        clear hzs
        have hbl118 : b < wv29.heap.size := HS34.out.lt'
        go_wp2_with (at_make; refine wpl_make eI_len (by decide) _ rfl _ _ 30 rfl 2 (0 : Int) _ 8 rfl Try.underlying30 infoI .i64 .i64 _ _ m rfl rfl (by first | rfl | omega) (by first | rfl | omega) (by omega) (by unfold maxLen; omega) zs116 HZ117 ?_)
        intro wv115 ho9 hb9 hs9
        have HO114 := Lib.hid ho9
        have HS119 := Lib.hid (HS34.out.belowN hb9 HS34.out.lt')
        have HU120 := Lib.hid (HU35.out.ofN hb9 HU35.out.size)
        have HO121 := Lib.hid (HO32.out.below hb9)
        have hsz122 : w.heap.size ≤ wv115.heap.size := Nat.le_trans hsz33 (hb9).size
        have hsz123 : wv29.heap.size ≤ wv115.heap.size := Nat.le_of_lt hs9
        clear ho9 hb9 hs9
        by_cases hc124 : 0 < (m : Int)
        · have d125 : decide (0 < (m : Int)) = true := decide_eq_true hc124
          go_wp2_with fail
          refine (srcOne 12 w0 _ b a n c p28 z28 xs (by omega) (by omega) (by omega) HL.out HO.out HR.out HS119.out).mono ?_
          rintro e wv127 ⟨v126, p126, z126, rfl, hp126, hs128, hu129⟩
          have HO130 := Lib.hid (HO114.out.draw HS119.out hs128 hu129 hbl118)
          have hsz131 : wv29.heap.size ≤ wv127.heap.size := Nat.le_trans hsz123 hu129.size
          have HS132 := Lib.hid hs128
          have HU133 := Lib.hid (HU120.out.trans hu129)
          clear hs128 hu129
          cases hc134 : v126 with
          | false =>
            go_wp2_with fail
            refine (srcOne 16 w0 _ b a n c p126 z126 xs (by omega) (by omega) (by omega) HL.out HO.out HR.out HS132.out).mono ?_
            rintro e wv136 ⟨v135, p135, z135, rfl, hp135, hs137, hu138⟩
            have HO139 := Lib.hid (HO130.out.draw HS132.out hs137 hu138 hbl118)
            have hsz140 : wv29.heap.size ≤ wv136.heap.size := Nat.le_trans hsz131 hu138.size
            have HS141 := Lib.hid hs137
            have HU142 := Lib.hid (HU133.out.trans hu138)
            clear hs137 hu138
            cases hc143 : v135 with
            | false =>
              go_wp2_with fail
              go_ret
              exact ⟨_, _, _, _, p135, z135, rfl, by omega, (by rw [← HZ117.out]; intro x hx; rw [List.eq_of_mem_replicate hx]; unfold I64; omega), HO139.out.mono HU35.out.size, by omega, HS141.out, HU142.out⟩
            | true =>
              have h63 : m + 1 ≤ maxLen := by unfold maxLen; omega
              have hby : (m + 1) * 8 ≤ 140737488355328 := by omega
              obtain ⟨ys149, hys⟩ : ∃ ys, zs116 ++ [(1 : Int)] = ys := ⟨_, rfl⟩
              have HYS144 := Lib.hid hys
              clear hys
              have hsz9 : wv29.heap.size ≤ wv136.heap.size := hsz140
              go_wp2_with (at_builtin; refine wpl_app eI_len (by decide) _ rfl (.tmp 35) (.tmp 36) 30 rfl 2 _ 8 rfl Try.underlying30 infoI wv29.heap.size _ m _ rfl wv136 _ _ rfl HO139.out (1) rfl rfl (eI_one _) h63 hby hsz9 ys149 HYS144 ?_)
              intro a147 c148 wv146 ho9 hb9 hs9
              have HO145 := Lib.hid ho9
              have hsz150 : wv29.heap.size ≤ wv146.heap.size := Nat.le_trans hsz140 (Nat.le_of_lt hs9)
              have HS151 := Lib.hid (HS141.out.belowN hb9 hbl118)
              have HU152 := Lib.hid (HU142.out.ofN hb9 HU35.out.size)
              clear ho9 hb9 h63 hby hsz9 hs9
              go_wp2_with fail
              go_ret
              exact ⟨_, _, _, _, p135, z135, rfl, by omega, (by rw [← HYS144.out]; exact all_snoc (by rw [← HZ117.out]; intro x hx; rw [List.eq_of_mem_replicate hx]; unfold I64; omega) (by unfold I64; omega)), HO145.out.mono HU35.out.size, by omega, HS151.out, HU152.out⟩
          | true =>
            go_wp2_with fail
            have hC153 := CAt.new wv127 #[.int .i64 ((-1)), .int .i64 0, .int .i64 100, .int .i64 101] 2
            have hSA153 := HS132.out.alloc' (.cells #[.int .i64 ((-1)), .int .i64 0, .int .i64 100, .int .i64 101] 2)
            have hBA153 := (Below.refl wv127.heap.size wv127).alloc (Nat.le_refl _) (.cells #[.int .i64 ((-1)), .int .i64 0, .int .i64 100, .int .i64 101] 2)
            have hlx153 := HS132.out.lt'
            refine (srcAmong [(-1), 0, 100, 101] wv127.heap.size 4 2 w0 _ b a n c p126 z126 xs (by omega) (by omega) rfl hC153 (by omega) (by omega) HL.out HO.out HR.out hSA153).mono ?_
            rintro e wv153 ⟨v153, p153, z153, rfl, hv153, hp153, hs153, hu153⟩
            have HO154 := Lib.hid ((HO130.out.below hBA153).draw hSA153 hs153 hu153 hbl118)
            have hsz155 : wv29.heap.size ≤ wv153.heap.size := Nat.le_trans hsz131 (Nat.le_trans hBA153.size hu153.size)
            have HS153 := Lib.hid hs153
            have HU153 := Lib.hid ((HU133.out.ofN hBA153 HU133.out.size).trans hu153)
            simp only [List.mem_cons, List.not_mem_nil, or_false] at hv153
            clear hC153 hSA153 hBA153 hs153 hu153 hlx153
            obtain ⟨ys158, hys⟩ : ∃ ys, (zs116).set 0 v153 = ys := ⟨_, rfl⟩
            have HY157 := Lib.hid hys
            clear hys
            have hlq : 0 < m := by omega
            go_wp2_with (with_reducible refine wpl_set eI_len (by decide) _ rfl 2 (.tmp 32) (.tmp 31) rfl wv29.heap.size 0 rfl _ rfl v153 rfl ?s1 (eI_one _) wv29.heap.size 2 m m 0 _ HO154.out hlq (by first | rfl | simp) wv29.heap.size (Nat.le_refl _) hsz155 _ HY157 ?_)
            case s1 => kernel_rfl
            intro wv159 ho9 hb9 _
            have HO156 := Lib.hid ho9
            have hsz160 : wv29.heap.size ≤ wv159.heap.size := Nat.le_trans hsz155 hb9.size
            have HS161 := Lib.hid (HS153.out.belowN hb9 hbl118)
            have HU162 := Lib.hid (HU153.out.ofN hb9 HU35.out.size)
            clear ho9 hb9 hlq
            go_wp2_with fail
            refine (srcOne 16 w0 _ b a n c p153 z153 xs (by omega) (by omega) (by omega) HL.out HO.out HR.out HS161.out).mono ?_
            rintro e wv164 ⟨v163, p163, z163, rfl, hp163, hs165, hu166⟩
            have HO167 := Lib.hid (HO156.out.draw HS161.out hs165 hu166 hbl118)
            have hsz168 : wv29.heap.size ≤ wv164.heap.size := Nat.le_trans hsz160 hu166.size
            have HS169 := Lib.hid hs165
            have HU170 := Lib.hid (HU162.out.trans hu166)
            clear hs165 hu166
            cases hc171 : v163 with
            | false =>
              go_wp2_with fail
              go_ret
              exact ⟨_, _, _, _, p163, z163, rfl, by omega, (by rw [← HY157.out]; have hh : ∀ y ∈ zs116, I64 y := (by rw [← HZ117.out]; intro x hx; rw [List.eq_of_mem_replicate hx]; unfold I64; omega); intro x hx; rcases List.mem_or_eq_of_mem_set hx with hx | hx; exact hh x hx; rw [hx]; unfold I64; omega), HO167.out.mono HU35.out.size, by omega, HS169.out, HU170.out⟩
            | true =>
              have h63 : m + 1 ≤ maxLen := by unfold maxLen; omega
              have hby : (m + 1) * 8 ≤ 140737488355328 := by omega
              obtain ⟨ys177, hys⟩ : ∃ ys, ys158 ++ [(1 : Int)] = ys := ⟨_, rfl⟩
              have HYS172 := Lib.hid hys
              clear hys
              have hsz9 : wv29.heap.size ≤ wv164.heap.size := hsz168
              go_wp2_with (at_builtin; refine wpl_app eI_len (by decide) _ rfl (.tmp 35) (.tmp 36) 30 rfl 2 _ 8 rfl Try.underlying30 infoI wv29.heap.size _ m _ rfl wv164 _ _ rfl HO167.out (1) rfl rfl (eI_one _) h63 hby hsz9 ys177 HYS172 ?_)
              intro a175 c176 wv174 ho9 hb9 hs9
              have HO173 := Lib.hid ho9
              have hsz178 : wv29.heap.size ≤ wv174.heap.size := Nat.le_trans hsz168 (Nat.le_of_lt hs9)
              have HS179 := Lib.hid (HS169.out.belowN hb9 hbl118)
              have HU180 := Lib.hid (HU170.out.ofN hb9 HU35.out.size)
              clear ho9 hb9 h63 hby hsz9 hs9
              go_wp2_with fail
              go_ret
              exact ⟨_, _, _, _, p163, z163, rfl, by omega, (by rw [← HYS172.out]; exact all_snoc (by rw [← HY157.out]; have hh : ∀ y ∈ zs116, I64 y := (by rw [← HZ117.out]; intro x hx; rw [List.eq_of_mem_replicate hx]; unfold I64; omega); intro x hx; rcases List.mem_or_eq_of_mem_set hx with hx | hx; exact hh x hx; rw [hx]; unfold I64; omega) (by unfold I64; omega)), HO173.out.mono HU35.out.size, by omega, HS179.out, HU180.out⟩
        · have d181 : decide (0 < (m : Int)) = false := decide_eq_false hc124
          go_wp2_with fail
          refine (srcOne 16 w0 _ b a n c p28 z28 xs (by omega) (by omega) (by omega) HL.out HO.out HR.out HS119.out).mono ?_
          rintro e wv183 ⟨v182, p182, z182, rfl, hp182, hs184, hu185⟩
          have HO186 := Lib.hid (HO114.out.draw HS119.out hs184 hu185 hbl118)
          have hsz187 : wv29.heap.size ≤ wv183.heap.size := Nat.le_trans hsz123 hu185.size
          have HS188 := Lib.hid hs184
          have HU189 := Lib.hid (HU120.out.trans hu185)
          clear hs184 hu185
          cases hc190 : v182 with
          | false =>
            go_wp2_with fail
            go_ret
            exact ⟨_, _, _, _, p182, z182, rfl, by omega, (by rw [← HZ117.out]; intro x hx; rw [List.eq_of_mem_replicate hx]; unfold I64; omega), HO186.out.mono HU35.out.size, by omega, HS188.out, HU189.out⟩
          | true =>
            have h63 : m + 1 ≤ maxLen := by unfold maxLen; omega
            have hby : (m + 1) * 8 ≤ 140737488355328 := by omega
            obtain ⟨ys196, hys⟩ : ∃ ys, zs116 ++ [(1 : Int)] = ys := ⟨_, rfl⟩
            have HYS191 := Lib.hid hys
            clear hys
            have hsz9 : wv29.heap.size ≤ wv183.heap.size := hsz187
            go_wp2_with (at_builtin; refine wpl_app eI_len (by decide) _ rfl (.tmp 35) (.tmp 36) 30 rfl 2 _ 8 rfl Try.underlying30 infoI wv29.heap.size _ m _ rfl wv183 _ _ rfl HO186.out (1) rfl rfl (eI_one _) h63 hby hsz9 ys196 HYS191 ?_)
            intro a194 c195 wv193 ho9 hb9 hs9
            have HO192 := Lib.hid ho9
            have hsz197 : wv29.heap.size ≤ wv193.heap.size := Nat.le_trans hsz187 (Nat.le_of_lt hs9)
            have HS198 := Lib.hid (HS188.out.belowN hb9 hbl118)
            have HU199 := Lib.hid (HU189.out.ofN hb9 HU35.out.size)
            clear ho9 hb9 h63 hby hsz9 hs9
            go_wp2_with fail
            go_ret
            exact ⟨_, _, _, _, p182, z182, rfl, by omega, (by rw [← HYS191.out]; exact all_snoc (by rw [← HZ117.out]; intro x hx; rw [List.eq_of_mem_replicate hx]; unfold I64; omega) (by unfold I64; omega)), HO192.out.mono HU35.out.size, by omega, HS198.out, HU199.out⟩
end Go.Proofs.Ytloggipjmaiegaa
