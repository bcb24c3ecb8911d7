/-
  The draws of the law on deviations; plain part of the law.
-/
import Derived.Test.YtloggipjmaiegaaDv4
namespace Go.Proofs.Ytloggipjmaiegaa
open Go.RowKit
set_option maxRecDepth 100000
set_option linter.unusedVariables false
set_option linter.unusedSimpArgs false
def AskI (w : World) (M : Nat) (e : Ending) (w' : World) : Prop := ∃ (a : Option Addr) (n c : Nat) (L : List Int) (t : Int), e = .returned (.tuple #[.slice a n c, .int .i64 t]) ∧ n ≤ M ∧ n ≤ c ∧ L.length = n ∧ Rd eI 1 w' a L ∧ Below w.heap.size w w'
def AskL (w : World) (M : Nat) (e : Ending) (w' : World) : Prop := ∃ (a : Option Addr) (n c : Nat) (L : List Int), e = .returned (.slice a n c) ∧ n ≤ M ∧ n ≤ c ∧ L.length = n ∧ Rd eI 1 w' a L ∧ Below w.heap.size w w'
theorem f6bigD (a : Option Addr) (n c : Nat) (w : World) (d : Bool) (hd : decide (4096 < n) = d) : Calls Try.prog 29 #[.slice a n c] w fun e w' => e = .returned (.bool d) ∧ w = w' := by
  have HD := Lib.hid hd
  clear hd
  go_enter Try.func29, Try.ntmps29
  go_wp2_with fail
  go_ret
  exact ⟨by rw [← HD.out]; first | rfl | (simp; omega), rfl⟩
theorem kp_facts {l : List Int} {t : Int} (h : tmE l t = 0) : kpV l t = keptL t l ∧ clV l t = clipL t l ∧ l.length ≤ 2 * (kpV l t).length ∧ 0 < (clV l t).length ∧ tmE (clV l t) t = 0 ∧ kpV (clV l t) t = clV l t := by
  obtain ⟨h1, h2, h3, h4, h5, h6, h7⟩ := tmE_parts h
  have e1 : kpV l t = keptL t l := by unfold kpV; rw [if_pos h]
  have e2 : clV l t = clipL t l := by unfold clV; rw [if_pos h]
  obtain ⟨f1, f2, f3, f4⟩ := clipL_facts t l.length l (Nat.le_refl _) h2 h5 h3
  have hm : magsB (clipL t l) = true := by
    have h8 : (clipL t l).all (fun x => inB x (-2000) 20000) = true := List.all_eq_true.2 fun x hx => by have := f1 x hx; exact inB_iff.2 this
    unfold magsB
    rw [h8, decide_eq_true (show (clipL t l).length ≤ 100 by omega)]; rfl
  have e3 : tmE (clipL t l) t = 0 := by
    unfold tmE
    rw [if_pos ⟨hm, h7⟩, if_neg (by omega)]
  refine ⟨e1, e2, by rw [e1]; exact keptL_half h2 h5, by rw [e2]; exact f2, by rw [e2]; exact e3, ?_⟩
  rw [e2]
  unfold kpV
  rw [if_pos e3, f4]
theorem wt_facts {l : List Int} (h : smE l = 0) : wtV l = wgtL l ∧ (∀ x ∈ wtV l, 0 ≤ x ∧ x ≤ 100) ∧ (l.length : Int) ≤ 2 * hunN (wtV l) l.length := by
  obtain ⟨h1, h2, h3, h4⟩ := smE_parts h
  have e1 : wtV l = wgtL l := by unfold wtV; rw [if_pos h]
  rw [e1]
  exact ⟨rfl, wgtL_in h2, wgt_half l⟩
set_option maxHeartbeats 1000000 in
theorem DrawWeightsFor_any (a : Option Addr) (n c : Nat) (xs : List Int) (w : World) (hl : xs.length = n) (ho : ∀ x ∈ xs, Byt x) (hr : Rd eB 1 w a xs) : Calls Try.prog 107 #[.slice a n c] w (AskL w 101) := by
  have HL := Lib.hid hl
  have HO := Lib.hid ho
  have HR := Lib.hid hr
  clear hl ho hr
  go_enter Try.func107, Try.ntmps107
  go_wp2_with fail
  refine (srcFrom a n c _).mono ?_
  rintro e wf ⟨rfl, hsf, hltf⟩
  have HSf := Lib.hid hsf
  have HUf : Hid (But w.heap.size wf wf) := Lib.hid (But.refl _ _)
  clear hsf
  go_wp2_with fail
  have hbl1 : w.heap.size < wf.heap.size := HSf.out.lt'
  refine (l21Draw_any w _ w.heap.size a n c 0 0 xs (by omega) HL.out HO.out HR.out HSf.out).mono ?_
  rintro e wv2 ⟨a1, k1, c1, L1, p1, z1, rfl, hk1, hP1, ho1, hp1, hs3, hu4⟩
  have HO1 := Lib.hid ho1
  clear ho1
  have hsz1 : wf.heap.size ≤ wv2.heap.size := hu4.size
  have HS5 := Lib.hid hs3
  have HU6 := Lib.hid (HUf.out.trans hu4)
  clear hs3 hu4
  go_wp2_with fail
  go_ret
  exact ⟨_, _, _, _, rfl, by omega, HO1.out.caps.1, HO1.out.len eI_len (by decide), HO1.out.rd eI_len (by decide), HS5.out.ok⟩
set_option maxHeartbeats 1000000 in
theorem DrawDeviationsFrom_any (a : Option Addr) (n c : Nat) (xs : List Int) (w : World) (hl : xs.length = n) (ho : ∀ x ∈ xs, Byt x) (hr : Rd eB 1 w a xs) : Calls Try.prog 104 #[.slice a n c] w (AskI w 101) := by
  have HL := Lib.hid hl
  have HO := Lib.hid ho
  have HR := Lib.hid hr
  clear hl ho hr
  go_enter Try.func104, Try.ntmps104
  go_wp2_with fail
  refine (srcFrom a n c _).mono ?_
  rintro e wf ⟨rfl, hsf, hltf⟩
  have HSf := Lib.hid hsf
  have HUf : Hid (But w.heap.size wf wf) := Lib.hid (But.refl _ _)
  clear hsf
  go_wp2_with fail
  have hbl1 : w.heap.size < wf.heap.size := HSf.out.lt'
  refine (l21Draw_any w _ w.heap.size a n c 0 0 xs (by omega) HL.out HO.out HR.out HSf.out).mono ?_
  rintro e wv2 ⟨a1, k1, c1, L1, p1, z1, rfl, hk1, hP1, ho1, hp1, hs3, hu4⟩
  have HO1 := Lib.hid ho1
  clear ho1
  have hsz1 : wf.heap.size ≤ wv2.heap.size := hu4.size
  have HS5 := Lib.hid hs3
  have HU6 := Lib.hid (HUf.out.trans hu4)
  clear hs3 hu4
  go_wp2_with fail
  refine (srcOne 4 w _ w.heap.size a n c p1 z1 xs (by omega) (by omega) (by omega) HL.out HO.out HR.out HS5.out).mono ?_
  rintro e wv8 ⟨v7, p7, z7, rfl, hp7, hs9, hu10⟩
  have HO11 := Lib.hid (HO1.out.draw HS5.out hs9 hu10 hbl1)
  have hsz12 : wf.heap.size ≤ wv8.heap.size := Nat.le_trans hsz1 hu10.size
  have HS13 := Lib.hid hs9
  have HU14 := Lib.hid (HU6.out.trans hu10)
  clear hs9 hu10
  cases hc15 : v7 with
  | false =>
    go_wp2_with fail
    refine (srcPick 30 w _ w.heap.size a n c p7 z7 xs (by omega) (by omega) (by omega) HL.out HO.out HR.out HS13.out).mono ?_
    rintro e wv17 ⟨v16, p16, z16, rfl, hv16, hx16, hp16, hs18, hu19⟩
    obtain ⟨m16, rfl⟩ : ∃ m : Nat, v16 = m := ⟨v16.toNat, by omega⟩
    have HO20 := Lib.hid (HO11.out.draw HS13.out hs18 hu19 hbl1)
    have hsz21 : wf.heap.size ≤ wv17.heap.size := Nat.le_trans hsz12 hu19.size
    have HS22 := Lib.hid hs18
    have HU23 := Lib.hid (HU14.out.trans hu19)
    clear hs18 hu19
    have i24 : IntKind.i64.wrap (100 * (m16 : Int)) = 100 * (m16 : Int) := IntWalk.i64_in _ (by omega)
    have i25 : IntKind.i64.wrap (8000 + (100 * (m16 : Int))) = 8000 + (100 * (m16 : Int)) := IntWalk.i64_in _ (by omega)
    go_wp2_with fail
    go_ret2
    exact ⟨_, _, _, _, _, rfl, by omega, HO20.out.caps.1, HO20.out.len eI_len (by decide), HO20.out.rd eI_len (by decide), HS22.out.ok⟩
  | true =>
    go_wp2_with fail
    refine (l02Bent_any w _ w.heap.size a n c p7 z7 xs (by omega) HL.out HO.out HR.out HS13.out).mono ?_
    rintro e wv27 ⟨v26, p26, z26, rfl, hv26, hp26, hs28, hu29⟩
    have HO30 := Lib.hid (HO11.out.draw HS13.out hs28 hu29 hbl1)
    have hsz31 : wf.heap.size ≤ wv27.heap.size := Nat.le_trans hsz12 hu29.size
    have HS32 := Lib.hid hs28
    have HU33 := Lib.hid (HU14.out.trans hu29)
    clear hs28 hu29
    go_wp2_with fail
    go_ret2
    exact ⟨_, _, _, _, _, rfl, by omega, HO30.out.caps.1, HO30.out.len eI_len (by decide), HO30.out.rd eI_len (by decide), HS32.out.ok⟩
set_option maxHeartbeats 1000000 in
theorem l21Both_any (a : Option Addr) (n c : Nat) (xs : List Int) (w : World) (hl : xs.length = n) (ho : ∀ x ∈ xs, Byt x) (hr : Rd eB 1 w a xs) : Calls Try.prog 216 #[.slice a n c] w (AskI w 101) := by
  have HL := Lib.hid hl
  have HO := Lib.hid ho
  have HR := Lib.hid hr
  clear hl ho hr
  go_enter Try.func216, Try.ntmps216
  go_wp2_with fail
  refine (srcFrom a n c _).mono ?_
  rintro e wf ⟨rfl, hsf, hltf⟩
  have HSf := Lib.hid hsf
  have HUf : Hid (But w.heap.size wf wf) := Lib.hid (But.refl _ _)
  clear hsf
  go_wp2_with fail
  have hbl1 : w.heap.size < wf.heap.size := HSf.out.lt'
  refine (l21Draw_any w _ w.heap.size a n c 0 0 xs (by omega) HL.out HO.out HR.out HSf.out).mono ?_
  rintro e wv2 ⟨a1, k1, c1, L1, p1, z1, rfl, hk1, hP1, ho1, hp1, hs3, hu4⟩
  have HO1 := Lib.hid ho1
  clear ho1
  have hsz1 : wf.heap.size ≤ wv2.heap.size := hu4.size
  have HS5 := Lib.hid hs3
  have HU6 := Lib.hid (HUf.out.trans hu4)
  clear hs3 hu4
  go_wp2_with fail
  refine (srcOne 10 w _ w.heap.size a n c p1 z1 xs (by omega) (by omega) (by omega) HL.out HO.out HR.out HS5.out).mono ?_
  rintro e wv8 ⟨v7, p7, z7, rfl, hp7, hs9, hu10⟩
  have HO11 := Lib.hid (HO1.out.draw HS5.out hs9 hu10 hbl1)
  have hsz12 : wf.heap.size ≤ wv8.heap.size := Nat.le_trans hsz1 hu10.size
  have HS13 := Lib.hid hs9
  have HU14 := Lib.hid (HU6.out.trans hu10)
  clear hs9 hu10
  cases hc15 : v7 with
  | false =>
    go_wp2_with fail
    refine (srcPick 5 w _ w.heap.size a n c p7 z7 xs (by omega) (by omega) (by omega) HL.out HO.out HR.out HS13.out).mono ?_
    rintro e wv17 ⟨v16, p16, z16, rfl, hv16, hx16, hp16, hs18, hu19⟩
    obtain ⟨m16, rfl⟩ : ∃ m : Nat, v16 = m := ⟨v16.toNat, by omega⟩
    have HO20 := Lib.hid (HO11.out.draw HS13.out hs18 hu19 hbl1)
    have hsz21 : wf.heap.size ≤ wv17.heap.size := Nat.le_trans hsz12 hu19.size
    have HS22 := Lib.hid hs18
    have HU23 := Lib.hid (HU14.out.trans hu19)
    clear hs18 hu19
    have i24 : IntKind.i64.wrap (1 + (m16 : Int)) = 1 + (m16 : Int) := IntWalk.i64_in _ (by omega)
    go_wp2_with fail
    go_ret2
    exact ⟨_, _, _, _, _, rfl, by omega, HO20.out.caps.1, HO20.out.len eI_len (by decide), HO20.out.rd eI_len (by decide), HS22.out.ok⟩
  | true =>
    go_wp2_with fail
    have hC25 := CAt.new wv8 #[.int .i64 ((-1)), .int .i64 0, .int .i64 1, .int .i64 100, .int .i64 101] 2
    have hSA25 := HS13.out.alloc' (.cells #[.int .i64 ((-1)), .int .i64 0, .int .i64 1, .int .i64 100, .int .i64 101] 2)
    have hBA25 := (Below.refl wv8.heap.size wv8).alloc (Nat.le_refl _) (.cells #[.int .i64 ((-1)), .int .i64 0, .int .i64 1, .int .i64 100, .int .i64 101] 2)
    have hlx25 := HS13.out.lt'
    refine (srcAmong [(-1), 0, 1, 100, 101] wv8.heap.size 5 2 w _ w.heap.size a n c p7 z7 xs (by omega) (by omega) rfl hC25 (by omega) (by omega) HL.out HO.out HR.out hSA25).mono ?_
    rintro e wv25 ⟨v25, p25, z25, rfl, hv25, hp25, hs25, hu25⟩
    have HO26 := Lib.hid ((HO11.out.below hBA25).draw hSA25 hs25 hu25 hbl1)
    have hsz27 : wf.heap.size ≤ wv25.heap.size := Nat.le_trans hsz12 (Nat.le_trans hBA25.size hu25.size)
    have HS25 := Lib.hid hs25
    have HU25 := Lib.hid ((HU14.out.ofN hBA25 HU14.out.size).trans hu25)
    simp only [List.mem_cons, List.not_mem_nil, or_false] at hv25
    clear hC25 hSA25 hBA25 hs25 hu25 hlx25
    go_wp2_with fail
    go_ret2
    exact ⟨_, _, _, _, _, rfl, by omega, HO26.out.caps.1, HO26.out.len eI_len (by decide), HO26.out.rd eI_len (by decide), HS25.out.ok⟩
set_option maxHeartbeats 1000000 in
theorem DrawClipMags_any (a : Option Addr) (n c : Nat) (xs : List Int) (w : World) (hl : xs.length = n) (ho : ∀ x ∈ xs, Byt x) (hr : Rd eB 1 w a xs) : Calls Try.prog 99 #[.slice a n c] w (AskI w 101) := by
  have HL := Lib.hid hl
  have HO := Lib.hid ho
  have HR := Lib.hid hr
  clear hl ho hr
  go_enter Try.func99, Try.ntmps99
  go_wp2_with fail
  refine (l21Both_any a n c xs _ HL.out HO.out (HR.out.below (Below.refl w.heap.size w))).mono ?_
  rintro e wv1 ⟨am, km, cm, ls, tt, rfl, hkm, hcm, hlm, hrm, hb2⟩
  have HB3 : Hid (Below w.heap.size w wv1) := Lib.hid hb2
  clear hb2
  have HLM := Lib.hid hlm
  have HRM := Lib.hid hrm
  clear hlm hrm
  go_wp2_with fail
  go_ret2
  exact ⟨_, _, _, _, _, rfl, hkm, hcm, HLM.out, HRM.out, HB3.out⟩
end Go.Proofs.Ytloggipjmaiegaa
