/-
  A new volume in its place: the program and the reference.
-/
import Derived.Test.YtgdcefdncjmnkaaSto
namespace Go.Proofs.Ytgdcefdncjmnkaa
open Go.RowKit
set_option maxRecDepth 100000
def StoPost (w : World) (r : Int × List Vol) (e : Ending) (w' : World) : Prop := ∃ a' n' c', e = .returned (.tuple #[.slice a' n' c', .int .i64 r.1]) ∧ n' ≤ 1048576 ∧ Ow Vol.enc 5 w' w.heap.size 31 (.slice a' n' c') n' r.2 ∧ Below w.heap.size w w'
theorem StoPost.none' {w w' : World} {r : Int × List Vol} {m : Int} (h : r = (m, [])) (hb : Below w.heap.size w w') : StoPost w r (.returned (.tuple #[.slice none 0 0, .int .i64 m])) w' :=
  ⟨none, 0, 0, by rw [h], by omega, by rw [h]; exact Ow.nil _ _ _, hb⟩
section
variable (vs : List Vol) (x : Vol) (a : Option Addr) (n c : Nat) (w : World) (hn : n ≤ 1048576) (hl : vs.length = n) (ho : ∀ v ∈ vs, Vol.Ok v) (hx : Vol.Ok x) (hr : Rd Vol.enc 5 w a vs)
include hn hl ho hx hr
set_option maxHeartbeats 4000000 in
theorem specSto (hnc : n ≤ c) : Calls Try.prog 7 #[.slice a n c, .agg #[.string x.name, .int .i64 x.frm, .int .i64 x.til, .int .i64 x.cnt, .int .i64 x.cop]] w (StoPost w (stoV vs x (placeV vs x.name))) := by
  have HL := Lib.hid hl
  have HO := Lib.hid ho
  have hnm := okSize hx.1
  have hnew := At5.new w x 31
  have hb0 : Below w.heap.size w (w.alloc (.cells #[.string x.name, .int .i64 x.frm, .int .i64 x.til, .int .i64 x.cnt, .int .i64 x.cop] 31)) := (Below.refl _ _).alloc (Nat.le_refl _) _
  have HR := Lib.hid hr
  have hsz : (w.alloc (.cells #[.string x.name, .int .i64 x.frm, .int .i64 x.til, .int .i64 x.cnt, .int .i64 x.cop] 31)).heap.size = w.heap.size + 1 := by simp
  have HN := Lib.hid hnew
  have HB0 := Lib.hid hb0
  have HZ := Lib.hid hsz
  have H1048 := Lib.hid hn
  clear hr hnew hb0 hsz hx
  obtain ⟨k, hk⟩ : ∃ k, placeV vs x.name = k := ⟨_, rfl⟩
  rw [hk]
  cases hv : volsB vs with
  | false =>
    have HC := Lib.hid (stoV_bad (x := x) (k := k) hv)
    have HV := Lib.hid hv
    clear hv hl ho hk
    go_enter Try.func7, Try.ntmps7
    go_wp2_with fail
    obtain ⟨w0, hw0⟩ : ∃ w0, w.alloc (.cells #[.string x.name, .int .i64 x.frm, .int .i64 x.til, .int .i64 x.cnt, .int .i64 x.cop] 31) = w0 := ⟨_, rfl⟩
    rw [hw0] at HN HB0 HZ ⊢
    clear hw0
    refine (l23Ok_lit vs _ a n c _ hn HL.out HO.out (HR.out.below HB0.out) HV.out).mono ?_
    rintro e w1 ⟨rfl, hb1⟩
    obtain ⟨_, p10, p11, p12, p13, p14⟩ := HN.out.below hb1
    simp only [Nat.zero_add] at p11 p12 p13 p14
    go_wp2_with fail
    go_ret2
    exact StoPost.none' HC.out (HB0.out.trans (hb1.mono (by rw [HZ.out]; omega)))
  | true =>
  have HV := Lib.hid hv
  cases hq : volB x with
  | false =>
    have HC := Lib.hid (stoV_one (k := k) hv hq)
    have HX := Lib.hid hq
    clear hv hl ho hk hq
    go_enter Try.func7, Try.ntmps7
    go_wp2_with fail
    obtain ⟨w0, hw0⟩ : ∃ w0, w.alloc (.cells #[.string x.name, .int .i64 x.frm, .int .i64 x.til, .int .i64 x.cnt, .int .i64 x.cop] 31) = w0 := ⟨_, rfl⟩
    rw [hw0] at HN HB0 HZ ⊢
    clear hw0
    refine (l23Ok_lit vs _ a n c _ hn HL.out HO.out (HR.out.below HB0.out) HV.out).mono ?_
    rintro e w1 ⟨rfl, hb1⟩
    obtain ⟨_, p10, p11, p12, p13, p14⟩ := HN.out.below hb1
    simp only [Nat.zero_add] at p11 p12 p13 p14
    go_wp2_with fail
    refine (l23One_lit x _ _ 0 _ hnm p10 p11 p12 p13 p14 HX.out).mono ?_
    rintro e w2 ⟨rfl, m2, hm2⟩
    have hb2 : Below w0.heap.size w0 w2 := by rw [hm2]; exact below_drewN hb1 m2
    clear hm2
    clear p10 p11 p12 p13 p14
    obtain ⟨_, p20, p21, p22, p23, p24⟩ := HN.out.below hb2
    simp only [Nat.zero_add] at p21 p22 p23 p24
    go_wp2_with fail
    go_ret2
    exact StoPost.none' HC.out (HB0.out.trans (hb2.mono (by rw [HZ.out]; omega)))
  | true =>
  have HX := Lib.hid hq
  cases hf : firstI n (nmP vs x.name) with
  | some i =>
    have HC := Lib.hid (stoV_some (k := k) hv hq (by rw [hl]; exact hf))
    have HF := Lib.hid hf
    clear hv hl ho hk hq hf
    go_enter Try.func7, Try.ntmps7
    go_wp2_with fail
    obtain ⟨w0, hw0⟩ : ∃ w0, w.alloc (.cells #[.string x.name, .int .i64 x.frm, .int .i64 x.til, .int .i64 x.cnt, .int .i64 x.cop] 31) = w0 := ⟨_, rfl⟩
    rw [hw0] at HN HB0 HZ ⊢
    clear hw0
    refine (l23Ok_lit vs _ a n c _ hn HL.out HO.out (HR.out.below HB0.out) HV.out).mono ?_
    rintro e w1 ⟨rfl, hb1⟩
    obtain ⟨_, p10, p11, p12, p13, p14⟩ := HN.out.below hb1
    simp only [Nat.zero_add] at p11 p12 p13 p14
    go_wp2_with fail
    refine (l23One_lit x _ _ 0 _ hnm p10 p11 p12 p13 p14 HX.out).mono ?_
    rintro e w2 ⟨rfl, m2, hm2⟩
    have hb2 : Below w0.heap.size w0 w2 := by rw [hm2]; exact below_drewN hb1 m2
    clear hm2
    clear p10 p11 p12 p13 p14
    obtain ⟨_, p20, p21, p22, p23, p24⟩ := HN.out.below hb2
    simp only [Nat.zero_add] at p21 p22 p23 p24
    go_wp2_with fail
    refine (l23Find_any vs x.name a n c _ hn HL.out ((HR.out.below HB0.out).below hb2)).mono ?_
    rintro e w3 ⟨rfl, hb3⟩
    have hb3 := hb2.trans (hb3.mono hb2.size)
    clear p20 p21 p22 p23 p24
    obtain ⟨_, p30, p31, p32, p33, p34⟩ := HN.out.below hb3
    simp only [Nat.zero_add] at p31 p32 p33 p34
    rw [HF.out, findZ]
    go_wp2_with fail
    go_ret2
    exact StoPost.none' HC.out (HB0.out.trans (hb3.mono (by rw [HZ.out]; omega)))
  | none =>
  have HF := Lib.hid hf
  have hn40 := volsB_len hv
  by_cases h40 : n = 40
  · have HC := Lib.hid (stoV_full (k := k) hv hq (by rw [hl]; exact hf) (by rw [hl]; exact h40))
    have d40 : ((n : Int) == 40) = true := by rw [h40]; rfl
    have d41 : (40 : Int) ≤ n := by omega
    clear hv hl ho hk hq hf hn40 h40
    go_enter Try.func7, Try.ntmps7
    go_wp2_with fail
    obtain ⟨w0, hw0⟩ : ∃ w0, w.alloc (.cells #[.string x.name, .int .i64 x.frm, .int .i64 x.til, .int .i64 x.cnt, .int .i64 x.cop] 31) = w0 := ⟨_, rfl⟩
    rw [hw0] at HN HB0 HZ ⊢
    clear hw0
    refine (l23Ok_lit vs _ a n c _ hn HL.out HO.out (HR.out.below HB0.out) HV.out).mono ?_
    rintro e w1 ⟨rfl, hb1⟩
    obtain ⟨_, p10, p11, p12, p13, p14⟩ := HN.out.below hb1
    simp only [Nat.zero_add] at p11 p12 p13 p14
    go_wp2_with fail
    refine (l23One_lit x _ _ 0 _ hnm p10 p11 p12 p13 p14 HX.out).mono ?_
    rintro e w2 ⟨rfl, m2, hm2⟩
    have hb2 : Below w0.heap.size w0 w2 := by rw [hm2]; exact below_drewN hb1 m2
    clear hm2
    clear p10 p11 p12 p13 p14
    obtain ⟨_, p20, p21, p22, p23, p24⟩ := HN.out.below hb2
    simp only [Nat.zero_add] at p21 p22 p23 p24
    go_wp2_with fail
    refine (l23Find_any vs x.name a n c _ hn HL.out ((HR.out.below HB0.out).below hb2)).mono ?_
    rintro e w3 ⟨rfl, hb3⟩
    have hb3 := hb2.trans (hb3.mono hb2.size)
    clear p20 p21 p22 p23 p24
    obtain ⟨_, p30, p31, p32, p33, p34⟩ := HN.out.below hb3
    simp only [Nat.zero_add] at p31 p32 p33 p34
    rw [HF.out, findZ]
    go_wp2_with fail
    go_ret2
    exact StoPost.none' HC.out (HB0.out.trans (hb3.mono (by rw [HZ.out]; omega)))
  have HC := Lib.hid (stoV_in (k := k) hv hq (by rw [hl]; exact hf) (by rw [hl]; exact h40))
  have HS : Hid (SplitV vs x.name k) := Lib.hid (hk ▸ placeV_is hv (by rw [hl]; exact hf))
  have d40 : ((n : Int) == 40) = false := by rw [beq_eq_false_iff_ne]; omega
  have d41 : (n : Int) < 40 := by omega
  have d42 : n < 40 := by omega
  clear hv hl ho hk hq hf hn40 h40
  have hkn : k ≤ n := HL.out ▸ HS.out.1
  go_enter Try.func7, Try.ntmps7
  go_wp2_with fail
  obtain ⟨w0, hw0⟩ : ∃ w0, w.alloc (.cells #[.string x.name, .int .i64 x.frm, .int .i64 x.til, .int .i64 x.cnt, .int .i64 x.cop] 31) = w0 := ⟨_, rfl⟩
  rw [hw0] at HN HB0 HZ ⊢
  clear hw0
  refine (l23Ok_lit vs _ a n c _ hn HL.out HO.out (HR.out.below HB0.out) HV.out).mono ?_
  rintro e w1 ⟨rfl, hb1⟩
  obtain ⟨_, p10, p11, p12, p13, p14⟩ := HN.out.below hb1
  simp only [Nat.zero_add] at p11 p12 p13 p14
  go_wp2_with fail
  refine (l23One_lit x _ _ 0 _ hnm p10 p11 p12 p13 p14 HX.out).mono ?_
  rintro e w2 ⟨rfl, m2, hm2⟩
  have hb2 : Below w0.heap.size w0 w2 := by rw [hm2]; exact below_drewN hb1 m2
  clear hm2
  clear p10 p11 p12 p13 p14
  obtain ⟨_, p20, p21, p22, p23, p24⟩ := HN.out.below hb2
  simp only [Nat.zero_add] at p21 p22 p23 p24
  go_wp2_with fail
  refine (l23Find_any vs x.name a n c _ hn HL.out ((HR.out.below HB0.out).below hb2)).mono ?_
  rintro e w3 ⟨rfl, hb3⟩
  have hb3 := hb2.trans (hb3.mono hb2.size)
  clear p20 p21 p22 p23 p24
  obtain ⟨_, p30, p31, p32, p33, p34⟩ := HN.out.below hb3
  simp only [Nat.zero_add] at p31 p32 p33 p34
  rw [HF.out, findZ]
  go_wp2_with fail
  have hrr := (HR.out.below HB0.out).below hb3
  have hw0s : w.heap.size < w3.heap.size := by have h1 := HZ.out; have h2 := hb3.size; omega
  have HB3 := Lib.hid hb3
  have HBB := Lib.hid (HB0.out.trans (hb3.mono HB0.out.size))
  have HRR : Hid (∀ W', Below w3.heap.size w3 W' → Rd Vol.enc 5 W' a vs) := Lib.hid fun W' hW => hrr.below hW
  have HCC : Hid (∀ W', Below w3.heap.size w3 W' → At5 W' w.heap.size 0 x) := Lib.hid fun W' hW => (HN.out.below HB3.out).below hW
  have hw3s : w.heap.size ≤ w3.heap.size := by omega
  have hnn : n ≤ 40 := by omega
  clear hb1 hb2 hb3 p30 p31 p32 p33 p34 hrr d40 d41 d42 hw0s
  go_loopw [6] (fun i wr => ∃ j : Nat, k ≤ j ∧ j ≤ n ∧ i = .int .i64 j ∧ Below w3.heap.size w3 wr) (fun i _ => (intOf i).toNat)
  case atStart => exact ⟨n, hkn, Nat.le_refl _, rfl, Below.refl _ _⟩
  case round =>
    obtain ⟨j, hj, hjn, rfl, hb⟩ := hrel
    obtain ⟨_, p0, p1, p2, p3, p4⟩ := HCC.out _ hb
    clear p1 p2 p3 p4
    have hrr := HRR.out _ hb
    by_cases hlt : k < j
    · obtain ⟨y, hy, _⟩ := take_snoc' vs (j - 1) (by rw [HL.out]; omega)
      obtain ⟨b, o, rfl, hbl, hc⟩ := hrr (j - 1) y hy
      have c0 := hc 0 _ rfl
      rw [Nat.add_zero] at c0
      have hlb := (HS.out.2.2 (j - 1) y hy (by omega)).2
      have hne : (y.name.toList == x.name.toList) = false := by
        rw [beq_eq_false_iff_ne]
        intro he
        have h1 := (HS.out.2.2 (j - 1) y hy (by omega)).1
        unfold lessB at h1
        rw [he, bl_irr] at h1
        cases h1
      unfold lessB at hlb
      have d1 : decide ((0 : Nat) < j) = true := by simp; omega
      have d1' : decide ((0 : Int) < (j : Int)) = true := by simp; omega
      have d2 : (0 : Int) ≤ (j : Int) - 1 := by omega
      have d3 : (j : Int) - 1 < (n : Int) := by omega
      have d4 : ((j : Int) - 1).toNat = j - 1 := by omega
      have d6 : IntKind.i64.wrap ((j : Int) - 1) = (j : Int) - 1 := IntWalk.i64_in _ (by omega)
      have d7 : (j : Int) - 1 = ((j - 1 : Nat) : Int) := by omega
      have d8 : 1 ≤ j := by omega
      have HD := Lib.hid d7
      clear d7 hc hy hrr
      go_wp2_with fail
      go_quiet (fail)
      clear d1 d1' d2 d3 d4 d6
      have hb4 : Below w3.heap.size w3 (wr.drewN nq) := below_drewN hb nq
      go_wp2_with fail
      go_roundw
      case rel => exact ⟨j - 1, by omega, by omega, by first | rfl | (rw [HD.out]) | skip, hb4⟩
      case measure => simp [intOf]; omega
    · obtain rfl : j = k := by omega
      have hdone : Hid (j = 0 ∨ ∃ y : Vol, vs[j - 1]? = some y ∧ 0 < j ∧ Op.bytesLess y.name.toList x.name.toList = true) := by
        by_cases h0 : j = 0
        · exact Lib.hid (.inl h0)
        · obtain ⟨y, hy, _⟩ := take_snoc' vs (j - 1) (by rw [HL.out]; omega)
          exact Lib.hid (.inr ⟨y, hy, by omega, HS.out.2.1 (j - 1) y hy (by omega)⟩)
      rcases hdone.out with h0 | ⟨y, hy, hj0, hlb⟩
      · have d1 : decide ((0 : Int) < (j : Int)) = false := by simp; omega
        have d1' : decide (0 < j) = false := by simp; omega
        have HH := Lib.hid h0
        clear h0 hdone hrr
        go_wp2_with fail
        go_quiet (fail)
        clear d1 d1' p0
        have hb4 : Below w3.heap.size w3 (wr.drewN nq) := below_drewN hb nq
        obtain ⟨wx, hwx⟩ : ∃ wx, wr.drewN nq = wx := ⟨_, rfl⟩
        rw [hwx] at hb4 ⊢
        clear hwx hb
        have hjc : j ≤ c := by omega
        have hjc' : (j : Int) ≤ c := by omega
        have hr1 : Rd Vol.enc 5 (wx.alloc (.cells #[] 31)) a (vs.take j) := by
          have h1 := ((HRR.out _ hb4).below (below_built wx 31)).sliced (j + 1) 0 j (by omega)
          rw [if_neg (by omega)] at h1
          simpa [Option.map_id', Addr.add] using h1
        have HTL : Hid ((vs.take j).length = j) := Lib.hid (by have h1 := HL.out; simp; omega)
        have hown := Ow.built Vol.enc 5 wx 31
        have hsz0 : wx.heap.size ≤ (wx.alloc (.cells #[] 31)).heap.size := (below_built wx 31).size
        have hn0 : 0 + j ≤ maxLen := by unfold maxLen; omega
        have hn1 : (0 + j) * 48 ≤ 140737488355328 := by omega
        have hy : Hid ([] ++ vs.take j = vs.take j) := Lib.hid rfl
        go_wp2_with (at_builtin; refine wpl_apps Vol.len (by decide) Vol.one _ rfl (.tmp 38) (.tmp 41) 27 rfl 31 _ 48 rfl Try.underlying27 copyInfo31 wx.heap.size _ 0 _ rfl hown (vs.take j) j HTL.out _ _ rfl hr1 hn0 hn1 hsz0 (vs.take j) hy ?_)
        intro a5 c5 w5 ho5 hb5
        have HO5 := Lib.hid ho5
        have HB5 := Lib.hid (hb4.trans (((below_built wx 31).trans hb5).mono hb4.size))
        obtain ⟨_, e0, e1, e2, e3, e4⟩ := HCC.out _ HB5.out
        simp only [Nat.zero_add] at e1 e2 e3 e4
        have hwb : wx.heap.size ≤ w5.heap.size := by have h1 := hb5.size; omega
        have h63 : j + 1 ≤ maxLen := by unfold maxLen; omega
        have hby : (j + 1) * 48 ≤ 140737488355328 := by omega
        obtain ⟨ys, hys⟩ : ∃ ys, vs.take j ++ [x] = ys := ⟨_, rfl⟩
        have HYS := Lib.hid hys
        clear hys ho5 hb5 hr1 hown hy
        go_wp2_with (at_builtin; refine wpl_app Vol.len (by decide) _ rfl (.tmp 43) (.tmp 45) 27 rfl 31 _ 48 rfl Try.underlying27 copyInfo31 wx.heap.size _ j _ rfl w5 _ _ rfl HO5.out x rfl rfl (Vol.one x) h63 hby hwb ys HYS ?_)
        intro a6 c6 w6 ho6 hb6 hs6
        have HO6 := Lib.hid ho6
        have HB6 := Lib.hid (HB5.out.trans (hb6.mono hb4.size))
        have hwb6 : wx.heap.size ≤ w6.heap.size := by omega
        have h63' : j + 1 + (n - j) ≤ maxLen := by unfold maxLen; omega
        have hby' : (j + 1 + (n - j)) * 48 ≤ 140737488355328 := by omega
        have HTD : Hid ((vs.drop j).length = n - j) := Lib.hid (by have h1 := HL.out; simp; omega)
        have HYZ : Hid (ys ++ vs.drop j = vs.take j ++ x :: vs.drop j) := Lib.hid (by rw [← HYS.out]; simp)
        clear ho6 hb6 e0 e1 e2 e3 e4
        have h3 := (HRR.out _ HB6.out).sliced c j (n - j) (by omega)
        rw [List.take_of_length_le (by have h1 := HTD.out; omega)] at h3
        by_cases hcj : c = j
        · rw [if_pos hcj] at h3
          subst hcj
          have HYZ0 : Hid (ys ++ [] = vs.take c ++ x :: vs.drop c) := Lib.hid (by rw [← HYZ.out, List.eq_nil_of_length_eq_zero (l := vs.drop c) (by have h1 := HTD.out; omega)])
          have h64 : c + 1 + 0 ≤ maxLen := by unfold maxLen; omega
          have hby4 : (c + 1 + 0) * 48 ≤ 140737488355328 := by omega
          go_wp2_with (at_builtin; refine wpl_apps Vol.len (by decide) Vol.one _ rfl (.tmp 47) (.tmp 50) 27 rfl 31 _ 48 rfl Try.underlying27 copyInfo31 wx.heap.size _ (c + 1) _ rfl HO6.out [] 0 rfl _ _ rfl (Rd.nil _ _ _ _) h64 hby4 hwb6 _ HYZ0 ?_)
          intro a7 c7 w7 ho7 hb7
          have hfin : c + 1 + 0 = n + 1 := by omega
          have HB7 := Lib.hid (HB6.out.trans (hb7.mono hb4.size))
          have HO7 := Lib.hid (ho7.mono (base' := w.heap.size) (by have h1 := hb4.size; omega))
          clear ho7 hb7 hfin h3
          go_wp2_with fail
          go_ret2
          exact ⟨a7, _, c7, by rw [HC.out]; rfl, by omega, by rw [HC.out]; exact HO7.out, HBB.out.trans (HB7.out.mono (by omega))⟩
        · rw [if_neg hcj] at h3
          try simp only [Option.map_some, addr_add] at h3
          go_wp2_with (at_builtin; refine wpl_apps Vol.len (by decide) Vol.one _ rfl (.tmp 47) (.tmp 50) 27 rfl 31 _ 48 rfl Try.underlying27 copyInfo31 wx.heap.size _ (j + 1) _ rfl HO6.out (vs.drop j) (n - j) HTD.out _ _ rfl h3 h63' hby' hwb6 _ HYZ ?_)
          intro a7 c7 w7 ho7 hb7
          have HB7 := Lib.hid (HB6.out.trans (hb7.mono hb4.size))
          have HO7 := Lib.hid (ho7.mono (base' := w.heap.size) (by have h1 := hb4.size; omega))
          clear ho7 hb7 h3
          go_wp2_with fail
          go_ret2
          exact ⟨a7, _, c7, by rw [HC.out]; rfl, by omega, by rw [HC.out]; exact HO7.out, HBB.out.trans (HB7.out.mono (by omega))⟩
      · obtain ⟨b, o, hab, hbl, hc⟩ := hrr (j - 1) y hy
        subst hab
        have c0 := hc 0 _ rfl
        rw [Nat.add_zero] at c0
        have d1 : decide (0 < j) = true := by simp; omega
        have d2 : (0 : Int) ≤ (j : Int) - 1 := by omega
        have d3 : (j : Int) - 1 < (n : Int) := by omega
        have d4 : ((j : Int) - 1).toNat = j - 1 := by omega
        have d6 : IntKind.i64.wrap ((j : Int) - 1) = (j : Int) - 1 := IntWalk.i64_in _ (by omega)
        have d8 : 1 ≤ j := by omega
        clear hc hy hrr hdone
        go_wp2_with fail
        go_quiet (fail)
        clear d1 d2 d3 d4 d6 p0
        have hb4 : Below w3.heap.size w3 (wr.drewN nq) := below_drewN hb nq
        obtain ⟨wx, hwx⟩ : ∃ wx, wr.drewN nq = wx := ⟨_, rfl⟩
        rw [hwx] at hb4 ⊢
        clear hwx hb
        have hjc : j ≤ c := by omega
        have hjc' : (j : Int) ≤ c := by omega
        have hr1 : Rd Vol.enc 5 (wx.alloc (.cells #[] 31)) (some ⟨b, o, none⟩) (vs.take j) := by
          have h1 := ((HRR.out _ hb4).below (below_built wx 31)).sliced (j + 1) 0 j (by omega)
          rw [if_neg (by omega)] at h1
          simpa [Option.map_id', Addr.add] using h1
        have HTL : Hid ((vs.take j).length = j) := Lib.hid (by have h1 := HL.out; simp; omega)
        have hown := Ow.built Vol.enc 5 wx 31
        have hsz0 : wx.heap.size ≤ (wx.alloc (.cells #[] 31)).heap.size := (below_built wx 31).size
        have hn0 : 0 + j ≤ maxLen := by unfold maxLen; omega
        have hn1 : (0 + j) * 48 ≤ 140737488355328 := by omega
        have hy : Hid ([] ++ vs.take j = vs.take j) := Lib.hid rfl
        go_wp2_with (at_builtin; refine wpl_apps Vol.len (by decide) Vol.one _ rfl (.tmp 38) (.tmp 41) 27 rfl 31 _ 48 rfl Try.underlying27 copyInfo31 wx.heap.size _ 0 _ rfl hown (vs.take j) j HTL.out _ _ rfl hr1 hn0 hn1 hsz0 (vs.take j) hy ?_)
        intro a5 c5 w5 ho5 hb5
        have HO5 := Lib.hid ho5
        have HB5 := Lib.hid (hb4.trans (((below_built wx 31).trans hb5).mono hb4.size))
        obtain ⟨_, e0, e1, e2, e3, e4⟩ := HCC.out _ HB5.out
        simp only [Nat.zero_add] at e1 e2 e3 e4
        have hwb : wx.heap.size ≤ w5.heap.size := by have h1 := hb5.size; omega
        have h63 : j + 1 ≤ maxLen := by unfold maxLen; omega
        have hby : (j + 1) * 48 ≤ 140737488355328 := by omega
        obtain ⟨ys, hys⟩ : ∃ ys, vs.take j ++ [x] = ys := ⟨_, rfl⟩
        have HYS := Lib.hid hys
        clear hys ho5 hb5 hr1 hown hy
        go_wp2_with (at_builtin; refine wpl_app Vol.len (by decide) _ rfl (.tmp 43) (.tmp 45) 27 rfl 31 _ 48 rfl Try.underlying27 copyInfo31 wx.heap.size _ j _ rfl w5 _ _ rfl HO5.out x rfl rfl (Vol.one x) h63 hby hwb ys HYS ?_)
        intro a6 c6 w6 ho6 hb6 hs6
        have HO6 := Lib.hid ho6
        have HB6 := Lib.hid (HB5.out.trans (hb6.mono hb4.size))
        have hwb6 : wx.heap.size ≤ w6.heap.size := by omega
        have h63' : j + 1 + (n - j) ≤ maxLen := by unfold maxLen; omega
        have hby' : (j + 1 + (n - j)) * 48 ≤ 140737488355328 := by omega
        have HTD : Hid ((vs.drop j).length = n - j) := Lib.hid (by have h1 := HL.out; simp; omega)
        have HYZ : Hid (ys ++ vs.drop j = vs.take j ++ x :: vs.drop j) := Lib.hid (by rw [← HYS.out]; simp)
        clear ho6 hb6 e0 e1 e2 e3 e4
        have h3 := (HRR.out _ HB6.out).sliced c j (n - j) (by omega)
        rw [List.take_of_length_le (by have h1 := HTD.out; omega)] at h3
        by_cases hcj : c = j
        · rw [if_pos hcj] at h3
          subst hcj
          have HYZ0 : Hid (ys ++ [] = vs.take c ++ x :: vs.drop c) := Lib.hid (by rw [← HYZ.out, List.eq_nil_of_length_eq_zero (l := vs.drop c) (by have h1 := HTD.out; omega)])
          have h64 : c + 1 + 0 ≤ maxLen := by unfold maxLen; omega
          have hby4 : (c + 1 + 0) * 48 ≤ 140737488355328 := by omega
          go_wp2_with (at_builtin; refine wpl_apps Vol.len (by decide) Vol.one _ rfl (.tmp 47) (.tmp 50) 27 rfl 31 _ 48 rfl Try.underlying27 copyInfo31 wx.heap.size _ (c + 1) _ rfl HO6.out [] 0 rfl _ _ rfl (Rd.nil _ _ _ _) h64 hby4 hwb6 _ HYZ0 ?_)
          intro a7 c7 w7 ho7 hb7
          have hfin : c + 1 + 0 = n + 1 := by omega
          have HB7 := Lib.hid (HB6.out.trans (hb7.mono hb4.size))
          have HO7 := Lib.hid (ho7.mono (base' := w.heap.size) (by have h1 := hb4.size; omega))
          clear ho7 hb7 hfin h3
          go_wp2_with fail
          go_ret2
          exact ⟨a7, _, c7, by rw [HC.out]; rfl, by omega, by rw [HC.out]; exact HO7.out, HBB.out.trans (HB7.out.mono (by omega))⟩
        · rw [if_neg hcj] at h3
          try simp only [Option.map_some, addr_add] at h3
          go_wp2_with (at_builtin; refine wpl_apps Vol.len (by decide) Vol.one _ rfl (.tmp 47) (.tmp 50) 27 rfl 31 _ 48 rfl Try.underlying27 copyInfo31 wx.heap.size _ (j + 1) _ rfl HO6.out (vs.drop j) (n - j) HTD.out _ _ rfl h3 h63' hby' hwb6 _ HYZ ?_)
          intro a7 c7 w7 ho7 hb7
          have HB7 := Lib.hid (HB6.out.trans (hb7.mono hb4.size))
          have HO7 := Lib.hid (ho7.mono (base' := w.heap.size) (by have h1 := hb4.size; omega))
          clear ho7 hb7 h3
          go_wp2_with fail
          go_ret2
          exact ⟨a7, _, c7, by rw [HC.out]; rfl, by omega, by rw [HC.out]; exact HO7.out, HBB.out.trans (HB7.out.mono (by omega))⟩
set_option maxHeartbeats 4000000 in
theorem implSto : Calls Try.prog 10 #[.slice a n c, .agg #[.string x.name, .int .i64 x.frm, .int .i64 x.til, .int .i64 x.cnt, .int .i64 x.cop]] w (StoPost w (stoV vs x (placeV vs x.name))) := by
  have HL := Lib.hid hl
  have HO := Lib.hid ho
  have hnm := okSize hx.1
  have hnew := At5.new w x 31
  have hb0 : Below w.heap.size w (w.alloc (.cells #[.string x.name, .int .i64 x.frm, .int .i64 x.til, .int .i64 x.cnt, .int .i64 x.cop] 31)) := (Below.refl _ _).alloc (Nat.le_refl _) _
  have HR := Lib.hid hr
  have hsz : (w.alloc (.cells #[.string x.name, .int .i64 x.frm, .int .i64 x.til, .int .i64 x.cnt, .int .i64 x.cop] 31)).heap.size = w.heap.size + 1 := by simp
  have HN := Lib.hid hnew
  have HB0 := Lib.hid hb0
  have HZ := Lib.hid hsz
  have H1048 := Lib.hid hn
  clear hr hnew hb0 hsz hx
  obtain ⟨k, hk⟩ : ∃ k, placeV vs x.name = k := ⟨_, rfl⟩
  rw [hk]
  cases hv : volsB vs with
  | false =>
    have HC := Lib.hid (stoV_bad (x := x) (k := k) hv)
    have HV := Lib.hid hv
    clear hv hl ho hk
    go_enter Try.func10, Try.ntmps10
    go_wp2_with fail
    obtain ⟨w0, hw0⟩ : ∃ w0, w.alloc (.cells #[.string x.name, .int .i64 x.frm, .int .i64 x.til, .int .i64 x.cnt, .int .i64 x.cop] 31) = w0 := ⟨_, rfl⟩
    rw [hw0] at HN HB0 HZ ⊢
    clear hw0
    refine (validV_lit vs _ a n c _ hn HL.out HO.out (HR.out.below HB0.out) HV.out).mono ?_
    rintro e w1 ⟨rfl, hb1⟩
    obtain ⟨_, p10, p11, p12, p13, p14⟩ := HN.out.below hb1
    simp only [Nat.zero_add] at p11 p12 p13 p14
    go_wp2_with fail
    go_ret2
    exact StoPost.none' HC.out (HB0.out.trans (hb1.mono (by rw [HZ.out]; omega)))
  | true =>
  have HV := Lib.hid hv
  cases hq : volB x with
  | false =>
    have HC := Lib.hid (stoV_one (k := k) hv hq)
    have HX := Lib.hid hq
    clear hv hl ho hk hq
    go_enter Try.func10, Try.ntmps10
    go_wp2_with fail
    obtain ⟨w0, hw0⟩ : ∃ w0, w.alloc (.cells #[.string x.name, .int .i64 x.frm, .int .i64 x.til, .int .i64 x.cnt, .int .i64 x.cop] 31) = w0 := ⟨_, rfl⟩
    rw [hw0] at HN HB0 HZ ⊢
    clear hw0
    refine (validV_lit vs _ a n c _ hn HL.out HO.out (HR.out.below HB0.out) HV.out).mono ?_
    rintro e w1 ⟨rfl, hb1⟩
    obtain ⟨_, p10, p11, p12, p13, p14⟩ := HN.out.below hb1
    simp only [Nat.zero_add] at p11 p12 p13 p14
    go_wp2_with fail
    refine (isVolume_lit x _ _ hnm HX.out).mono ?_
    rintro e w2 ⟨rfl, hb2⟩
    have hb2 := hb1.trans (hb2.mono hb1.size)
    clear p10 p11 p12 p13 p14
    obtain ⟨_, p20, p21, p22, p23, p24⟩ := HN.out.below hb2
    simp only [Nat.zero_add] at p21 p22 p23 p24
    go_wp2_with fail
    go_ret2
    exact StoPost.none' HC.out (HB0.out.trans (hb2.mono (by rw [HZ.out]; omega)))
  | true =>
  have HX := Lib.hid hq
  cases hf : firstI n (nmP vs x.name) with
  | some i =>
    have HC := Lib.hid (stoV_some (k := k) hv hq (by rw [hl]; exact hf))
    have HF := Lib.hid hf
    clear hv hl ho hk hq hf
    go_enter Try.func10, Try.ntmps10
    go_wp2_with fail
    obtain ⟨w0, hw0⟩ : ∃ w0, w.alloc (.cells #[.string x.name, .int .i64 x.frm, .int .i64 x.til, .int .i64 x.cnt, .int .i64 x.cop] 31) = w0 := ⟨_, rfl⟩
    rw [hw0] at HN HB0 HZ ⊢
    clear hw0
    refine (validV_lit vs _ a n c _ hn HL.out HO.out (HR.out.below HB0.out) HV.out).mono ?_
    rintro e w1 ⟨rfl, hb1⟩
    obtain ⟨_, p10, p11, p12, p13, p14⟩ := HN.out.below hb1
    simp only [Nat.zero_add] at p11 p12 p13 p14
    go_wp2_with fail
    refine (isVolume_lit x _ _ hnm HX.out).mono ?_
    rintro e w2 ⟨rfl, hb2⟩
    have hb2 := hb1.trans (hb2.mono hb1.size)
    clear p10 p11 p12 p13 p14
    obtain ⟨_, p20, p21, p22, p23, p24⟩ := HN.out.below hb2
    simp only [Nat.zero_add] at p21 p22 p23 p24
    go_wp2_with fail
    refine (findVolume_any vs x.name a n c _ hn HL.out ((HR.out.below HB0.out).below hb2)).mono ?_
    rintro e w3 ⟨rfl, hb3⟩
    have hb3 := hb2.trans (hb3.mono hb2.size)
    clear p20 p21 p22 p23 p24
    obtain ⟨_, p30, p31, p32, p33, p34⟩ := HN.out.below hb3
    simp only [Nat.zero_add] at p31 p32 p33 p34
    rw [HF.out, fnd1, fnd2]
    go_wp2_with fail
    go_ret2
    exact StoPost.none' HC.out (HB0.out.trans (hb3.mono (by rw [HZ.out]; omega)))
  | none =>
  have HF := Lib.hid hf
  have hn40 := volsB_len hv
  by_cases h40 : n = 40
  · have HC := Lib.hid (stoV_full (k := k) hv hq (by rw [hl]; exact hf) (by rw [hl]; exact h40))
    have d40 : ((n : Int) == 40) = true := by rw [h40]; rfl
    have d41 : (40 : Int) ≤ n := by omega
    clear hv hl ho hk hq hf hn40 h40
    go_enter Try.func10, Try.ntmps10
    go_wp2_with fail
    obtain ⟨w0, hw0⟩ : ∃ w0, w.alloc (.cells #[.string x.name, .int .i64 x.frm, .int .i64 x.til, .int .i64 x.cnt, .int .i64 x.cop] 31) = w0 := ⟨_, rfl⟩
    rw [hw0] at HN HB0 HZ ⊢
    clear hw0
    refine (validV_lit vs _ a n c _ hn HL.out HO.out (HR.out.below HB0.out) HV.out).mono ?_
    rintro e w1 ⟨rfl, hb1⟩
    obtain ⟨_, p10, p11, p12, p13, p14⟩ := HN.out.below hb1
    simp only [Nat.zero_add] at p11 p12 p13 p14
    go_wp2_with fail
    refine (isVolume_lit x _ _ hnm HX.out).mono ?_
    rintro e w2 ⟨rfl, hb2⟩
    have hb2 := hb1.trans (hb2.mono hb1.size)
    clear p10 p11 p12 p13 p14
    obtain ⟨_, p20, p21, p22, p23, p24⟩ := HN.out.below hb2
    simp only [Nat.zero_add] at p21 p22 p23 p24
    go_wp2_with fail
    refine (findVolume_any vs x.name a n c _ hn HL.out ((HR.out.below HB0.out).below hb2)).mono ?_
    rintro e w3 ⟨rfl, hb3⟩
    have hb3 := hb2.trans (hb3.mono hb2.size)
    clear p20 p21 p22 p23 p24
    obtain ⟨_, p30, p31, p32, p33, p34⟩ := HN.out.below hb3
    simp only [Nat.zero_add] at p31 p32 p33 p34
    rw [HF.out, fnd1, fnd2]
    go_wp2_with fail
    go_ret2
    exact StoPost.none' HC.out (HB0.out.trans (hb3.mono (by rw [HZ.out]; omega)))
  have HC := Lib.hid (stoV_in (k := k) hv hq (by rw [hl]; exact hf) (by rw [hl]; exact h40))
  have HS : Hid (SplitV vs x.name k) := Lib.hid (hk ▸ placeV_is hv (by rw [hl]; exact hf))
  have d40 : ((n : Int) == 40) = false := by rw [beq_eq_false_iff_ne]; omega
  have d41 : (n : Int) < 40 := by omega
  have d42 : n < 40 := by omega
  clear hv hl ho hk hq hf hn40 h40
  go_enter Try.func10, Try.ntmps10
  go_wp2_with fail
  obtain ⟨w0, hw0⟩ : ∃ w0, w.alloc (.cells #[.string x.name, .int .i64 x.frm, .int .i64 x.til, .int .i64 x.cnt, .int .i64 x.cop] 31) = w0 := ⟨_, rfl⟩
  rw [hw0] at HN HB0 HZ ⊢
  clear hw0
  refine (validV_lit vs _ a n c _ hn HL.out HO.out (HR.out.below HB0.out) HV.out).mono ?_
  rintro e w1 ⟨rfl, hb1⟩
  obtain ⟨_, p10, p11, p12, p13, p14⟩ := HN.out.below hb1
  simp only [Nat.zero_add] at p11 p12 p13 p14
  go_wp2_with fail
  refine (isVolume_lit x _ _ hnm HX.out).mono ?_
  rintro e w2 ⟨rfl, hb2⟩
  have hb2 := hb1.trans (hb2.mono hb1.size)
  clear p10 p11 p12 p13 p14
  obtain ⟨_, p20, p21, p22, p23, p24⟩ := HN.out.below hb2
  simp only [Nat.zero_add] at p21 p22 p23 p24
  go_wp2_with fail
  refine (findVolume_any vs x.name a n c _ hn HL.out ((HR.out.below HB0.out).below hb2)).mono ?_
  rintro e w3 ⟨rfl, hb3⟩
  have hb3 := hb2.trans (hb3.mono hb2.size)
  clear p20 p21 p22 p23 p24
  obtain ⟨_, p30, p31, p32, p33, p34⟩ := HN.out.below hb3
  simp only [Nat.zero_add] at p31 p32 p33 p34
  rw [HF.out, fnd1, fnd2]
  go_wp2_with fail
  refine (insertedV vs x k a n c _ (by omega) HL.out ((HR.out.below HB0.out).below hb3) HS.out).mono ?_
  rintro e w4 ⟨a4, c4, rfl, ho4, hb4⟩
  have hs3 := hb3.size
  have hz := HZ.out
  clear p30 p31 p32 p33 p34
  go_wp2_with fail
  go_ret2
  exact ⟨a4, n + 1, c4, by rw [HC.out]; rfl, by omega, by rw [HC.out]; exact ho4.mono (by omega), (HB0.out.trans (hb3.mono (by omega))).trans (hb4.mono (by omega))⟩
end
end Go.Proofs.Ytgdcefdncjmnkaa
