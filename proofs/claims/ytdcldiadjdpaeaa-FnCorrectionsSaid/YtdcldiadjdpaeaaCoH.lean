/-
  What is drawn for corrections.
-/
import Derived.Test.YtdcldiadjdpaeaaCoF
namespace Go.Proofs.Ytdcldiadjdpaeaa
open Go.RowKit
set_option maxRecDepth 100000
set_option linter.unusedVariables false
set_option linter.unusedSimpArgs false
theorem res_tmp4 {fn : Func} {t u v x : Tmp} (h : fn.results = #[.tmp t, .tmp u, .tmp v, .tmp x]) (tmps : Array Value) (P : Program) (w : World) :
    (results fn tmps).run P w = .ok (.tuple #[tmps.getD t undef, tmps.getD u undef, tmps.getD v undef, tmps.getD x undef]) w := by
  simp [results, h]
set_option maxHeartbeats 8000000 in
theorem drawMd (a : Option Addr) (n c : Nat) (xs : List Int) (w : World) (hl : xs.length = n) (ho : ∀ x ∈ xs, Byt x) (hr : Rd eB 1 w a xs) : Calls Try.prog 10 #[.slice a n c] w (DrV 2 w) := by
  have HL := Lib.hid hl
  have HO := Lib.hid ho
  have HR := Lib.hid hr
  clear hl ho hr
  go_enter Try.func10, Try.ntmps10
  go_wp2_with fail
  refine (srcFrom a n c _).mono ?_
  rintro e w1 ⟨rfl, hs1, hlt1⟩
  obtain ⟨b, hb⟩ : ∃ b, w.heap.size = b := ⟨_, rfl⟩
  rw [hb] at hs1 hlt1 ⊢
  have HS1 := Lib.hid hs1
  have HBB := Lib.hid hb
  clear hs1 hb
  go_wp2_with fail
  refine (l05Some_any w w1 b a n c 0 0 xs (by omega) HL.out HO.out HR.out HS1.out).mono ?_
  rintro e w2 hd
  obtain ⟨cn, a2, k2, c2, Lx, p2, z2, rfl, hcn, hk2, ho2, hp2, hs2, hu2⟩ := hd
  obtain ⟨L1, hL1⟩ : ∃ L1, w1.heap.size = L1 := ⟨_, rfl⟩
  rw [hL1] at ho2
  have hbL : b < L1 := by omega
  have hcn1 := hcn.1
  have hcn2 := hcn.2
  have HC2 := Lib.hid ho2.caps.1
  have HM2 := Lib.hid (ho2.len Com.len (by decide))
  have HO2 := Lib.hid ho2
  have HS2 := Lib.hid hs2
  have HU2 : Hid (w1.heap.size ≤ w2.heap.size) := Lib.hid hu2.size
  clear ho2 hs2 hu2 HS1
  by_cases h0 : k2 = 0
  · have d0 : ((0 : Int) < (k2 : Int)) = False := by rw [h0]; simp
    subst h0
    go_wp2_with fail
    refine (srcPick 6 w _ b a n c p2 z2 xs (by omega) (by omega) (by omega) HL.out HO.out HR.out HS2.out).mono ?_
    rintro e w3 ⟨v3, p3, z3, rfl, hv3, hx3, hp3, hs3, hu3⟩
    have HO3 := Lib.hid (HO2.out.draw HS2.out hs3 hu3 hbL)
    have HS3 := Lib.hid hs3
    clear hs3 hu3
    go_wp2_with fail
    refine (srcPick 12 w _ b a n c p3 z3 xs (by omega) (by omega) (by omega) HL.out HO.out HR.out HS3.out).mono ?_
    rintro e w4 ⟨v4, p4, z4, rfl, hv4, hx4, hp4, hs4, hu4⟩
    have HO4 := Lib.hid (HO3.out.draw HS3.out hs4 hu4 hbL)
    have HS4 := Lib.hid hs4
    clear hs4 hu4
    have hq2 : v4.tdiv 11 = v4 / 11 := Int.tdiv_eq_ediv_of_nonneg (by omega)
    have iq : IntKind.i64.wrap (v4.tdiv 11) = v4.tdiv 11 := IntWalk.i64_in _ (by omega)
    have i2 : IntKind.i64.wrap (v3 - v4.tdiv 11) = v3 - v4.tdiv 11 := IntWalk.i64_in _ (by omega)
    go_wp2_with fail
    refine (srcPick 6 w _ b a n c p4 z4 xs (by omega) (by omega) (by omega) HL.out HO.out HR.out HS4.out).mono ?_
    rintro e w5 ⟨v5, p5, z5, rfl, hv5, hx5, hp5, hs5, hu5⟩
    have HO5 := Lib.hid (HO4.out.draw HS4.out hs5 hu5 hbL)
    have HS5 := Lib.hid hs5
    clear hs5 hu5
    go_wp2_with fail
    (try simp only [Exit.inBlock, Exit.then]); refine bodyPost_ret (res_tmp4 rfl _ _ _) rfl ?_
    exact ⟨cn, a2, _, c2, Lx, [_, v5], rfl, rfl, hk2, HC2.out, HM2.out, HO5.out.rd Com.len (by decide), HS5.out.ok⟩
  · have d0 : (0 : Int) < (k2 : Int) := by omega
    go_wp2_with fail
    refine (srcOne 3 w _ b a n c p2 z2 xs (by omega) (by omega) (by omega) HL.out HO.out HR.out HS2.out).mono ?_
    rintro e w3 ⟨B3, p3, z3, rfl, hp3, hs3, hu3⟩
    have HO3 := Lib.hid (HO2.out.draw HS2.out hs3 hu3 hbL)
    have HS3 := Lib.hid hs3
    clear hs3 hu3
    cases B3 with
    | true =>
      go_wp2_with fail
      refine (srcPick 6 w _ b a n c p3 z3 xs (by omega) (by omega) (by omega) HL.out HO.out HR.out HS3.out).mono ?_
      rintro e w4 ⟨v4, p4, z4, rfl, hv4, hx4, hp4, hs4, hu4⟩
      have HO4 := Lib.hid (HO3.out.draw HS3.out hs4 hu4 hbL)
      have HS4 := Lib.hid hs4
      clear hs4 hu4
      go_wp2_with fail
      refine (srcPick 12 w _ b a n c p4 z4 xs (by omega) (by omega) (by omega) HL.out HO.out HR.out HS4.out).mono ?_
      rintro e w5 ⟨v5, p5, z5, rfl, hv5, hx5, hp5, hs5, hu5⟩
      have HO5 := Lib.hid (HO4.out.draw HS4.out hs5 hu5 hbL)
      have HS5 := Lib.hid hs5
      clear hs5 hu5
      have hq2 : v5.tdiv 11 = v5 / 11 := Int.tdiv_eq_ediv_of_nonneg (by omega)
      have iq : IntKind.i64.wrap (v5.tdiv 11) = v5.tdiv 11 := IntWalk.i64_in _ (by omega)
      have i2 : IntKind.i64.wrap (v4 - v5.tdiv 11) = v4 - v5.tdiv 11 := IntWalk.i64_in _ (by omega)
      go_wp2_with fail
      refine (srcPick 6 w _ b a n c p5 z5 xs (by omega) (by omega) (by omega) HL.out HO.out HR.out HS5.out).mono ?_
      rintro e w6 ⟨v6, p6, z6, rfl, hv6, hx6, hp6, hs6, hu6⟩
      have HO6 := Lib.hid (HO5.out.draw HS5.out hs6 hu6 hbL)
      have HS6 := Lib.hid hs6
      clear hs6 hu6
      go_wp2_with fail
      (try simp only [Exit.inBlock, Exit.then]); refine bodyPost_ret (res_tmp4 rfl _ _ _) rfl ?_
      exact ⟨cn, a2, _, c2, Lx, [_, v6], rfl, rfl, hk2, HC2.out, HM2.out, HO6.out.rd Com.len (by decide), HS6.out.ok⟩
    | false =>
      go_wp2_with fail
      refine (srcPick k2 w _ b a n c p3 z3 xs (by omega) (by omega) (by omega) HL.out HO.out HR.out HS3.out).mono ?_
      rintro e w4 ⟨v4, p4, z4, rfl, hv4, hx4, hp4, hs4, hu4⟩
      have HO4 := Lib.hid (HO3.out.draw HS3.out hs4 hu4 hbL)
      have HS4 := Lib.hid hs4
      clear hs4 hu4
      obtain ⟨i, rfl⟩ : ∃ m : Nat, v4 = m := ⟨v4.toNat, by omega⟩
      have j0 : (0 : Int) ≤ (i : Nat) := by omega
      have j1 : ((i : Nat) : Int) < k2 := by omega
      obtain ⟨x, hx⟩ : ∃ x, Lx[i]? = some x := ⟨_, List.getElem?_eq_getElem (by rw [HM2.out]; omega)⟩
      obtain ⟨bb, ob, hab, hbl, hc⟩ := (HO4.out.rd Com.len (by decide)) i x hx
      subst hab
      have c0 := hc 0 _ rfl
      rw [Nat.add_zero] at c0
      have c1 := hc 1 _ rfl
      have c2 := hc 2 _ rfl
      have hx5 := CAt.new w4 #[.int .i64 x.a, .int .i64 x.b, .int .i64 x.diff] 40
      have hb5 := (Below.refl w4.heap.size w4).alloc (Nat.le_refl _) (.cells #[.int .i64 x.a, .int .i64 x.b, .int .i64 x.diff] 40)
      have HO5 := Lib.hid (HO4.out.below hb5)
      have HS5 := Lib.hid (HS4.out.alloc' (.cells #[.int .i64 x.a, .int .i64 x.b, .int .i64 x.diff] 40))
      have hbb4 := HS4.out.lt'
      obtain ⟨g, hg⟩ : ∃ g, w4.heap.size = g := ⟨_, rfl⟩
      rw [hg] at hx5 hbb4
      clear hx hc hb5
      obtain ⟨p5, hp5e⟩ : ∃ q, p4 = q := ⟨_, rfl⟩
      obtain ⟨z5, hz5e⟩ : ∃ q, z4 = q := ⟨_, rfl⟩
      rw [hp5e, hz5e] at HS5
      go_upto_region 5 with (fail)
      try rw [hg]
      generalize w4.alloc (.cells #[.int .i64 x.a, .int .i64 x.b, .int .i64 x.diff] 40) = w5 at *
      clear c0 c1 c2 HO4 HS4
      go_wp2_with fail
      refine (srcOne 2 w _ b a n c p5 z5 xs (by omega) (by omega) (by omega) HL.out HO.out HR.out HS5.out).mono ?_
      rintro e w6 ⟨B6, p6, z6, rfl, hp6, hs6, hu6⟩
      have HO6 := Lib.hid (HO5.out.draw HS5.out hs6 hu6 hbL)
      have HS6 := Lib.hid hs6
      have hx6 := CAt.but hx5 hu6 (show g ≠ b by omega)
      have y0 := hx6.cell 0
      have y1 := hx6.cell 1
      have u0 : w6.drew.cell? ⟨g, 0, none⟩ = some (.int .i64 x.a) := y0
      have u1 : w6.drew.cell? ⟨g, 1, none⟩ = some (.int .i64 x.b) := y1
      have HR6 := Lib.hid (HO6.out.rd Com.len (by decide))
      have HR6d : Hid (Rd Com.enc 3 w6.drew _ Lx) := Lib.hid (HR6.out.below (Below.refl _ _).drew)
      have HB6 := Lib.hid HS6.out.ok
      have HB6d := Lib.hid HS6.out.ok.drew
      clear hx5 hs6 hu6 hx6
      cases B6 with
      | true =>
        go_wp2_with fail
        go_region
        all_goals
          go_wp2_with fail
          (try simp only [Exit.inBlock, Exit.then]); refine bodyPost_ret (res_tmp4 rfl _ _ _) rfl ?_
          exact ⟨cn, _, k2, c2, Lx, [x.b, x.a], rfl, rfl, hk2, HC2.out, HM2.out, by first | exact HR6d.out | exact HR6.out, by first | exact HB6d.out | exact HB6.out⟩
      | false =>
        go_wp2_with fail
        go_region
        all_goals
          go_wp2_with fail
          (try simp only [Exit.inBlock, Exit.then]); refine bodyPost_ret (res_tmp4 rfl _ _ _) rfl ?_
          exact ⟨cn, _, k2, c2, Lx, [x.a, x.b], rfl, rfl, hk2, HC2.out, HM2.out, by first | exact HR6d.out | exact HR6.out, by first | exact HB6d.out | exact HB6.out⟩
open Go.RowKit
set_option maxRecDepth 100000
set_option linter.unusedVariables false
set_option linter.unusedSimpArgs false
theorem Ow.belowN' {α : Type} {enc : α → List Value} {k base e n N : Nat} {v : Value} {w w' : World} {xs : List α} (h : Ow enc k w base e v n xs) (hb : Below N w w') (hN : ∀ g, v.ownBlock = some g → g < N) : Ow enc k w' base e v n xs := by
  refine ⟨h.1, ?_⟩
  rcases h.2 with h9 | ⟨g', cap, cur, hv, hg1, hg, h1, h2, h3, h4⟩
  · exact .inl h9
  · subst hv
    exact .inr ⟨g', cap, cur, rfl, hg1, (hb.block g' (hN g' rfl)).trans hg, h1, h2, h3, h4⟩
/-- a number, common estimates, and shifts -/
def DrS (w : World) (e : Ending) (w' : World) : Prop := ∃ (cnt : Int) (a' : Option Addr) (k c' : Nat) (L : List Com) (a3 : Option Addr) (n3 c3 : Nat) (S : List Int), e = .returned (.tuple #[.int .i64 cnt, .slice a' k c', .slice a3 n3 c3]) ∧ k ≤ 61 ∧ k ≤ c' ∧ n3 ≤ 41 ∧ n3 ≤ c3 ∧ L.length = k ∧ S.length = n3 ∧ Rd Com.enc 3 w' a' L ∧ Rd eI 1 w' a3 S ∧ Below w.heap.size w w'
set_option maxHeartbeats 8000000 in
theorem drawSl (a : Option Addr) (n c : Nat) (xs : List Int) (w : World) (hl : xs.length = n) (ho : ∀ x ∈ xs, Byt x) (hr : Rd eB 1 w a xs) : Calls Try.prog 13 #[.slice a n c] w (DrS w) := by
  have HL := Lib.hid hl
  have HO := Lib.hid ho
  have HR := Lib.hid hr
  clear hl ho hr
  go_enter Try.func13, Try.ntmps13
  go_wp2_with fail
  refine (srcFrom a n c _).mono ?_
  rintro e w1 ⟨rfl, hs1, hlt1⟩
  obtain ⟨b, hb⟩ : ∃ b, w.heap.size = b := ⟨_, rfl⟩
  rw [hb] at hs1 hlt1 ⊢
  have HS1 := Lib.hid hs1
  have HBB := Lib.hid hb
  clear hs1 hb
  go_wp2_with fail
  refine (l05Some_any w w1 b a n c 0 0 xs (by omega) HL.out HO.out HR.out HS1.out).mono ?_
  rintro e w2 hd
  obtain ⟨cn, a2, k2, c2, Lx, p2, z2, rfl, hcn, hk2, ho2, hp2, hs2, hu2⟩ := hd
  obtain ⟨L1, hL1⟩ : ∃ L1, w1.heap.size = L1 := ⟨_, rfl⟩
  rw [hL1] at ho2
  have hbL : b < L1 := by omega
  have hcn1 := hcn.1
  have hcn2 := hcn.2
  have HC2 := Lib.hid ho2.caps.1
  have HM2 := Lib.hid (ho2.len Com.len (by decide))
  have HO2 := Lib.hid ho2
  have HS2 := Lib.hid hs2
  have HU2 : Hid (w1.heap.size ≤ w2.heap.size) := Lib.hid hu2.size
  clear ho2 hs2 hu2 HS1
  obtain ⟨CS, hmk, hown⟩ := makeRow 3 (by omega)
  have HMK := Lib.hid hmk
  have HOWN := Lib.hid hown
  clear hmk hown
  go_wp2_with fail
  refine (spSh cn Lx 0 a2 k2 c2 w2 (by omega) HM2.out (HO2.out.rd Com.len (by decide))).mono ?_
  rintro e w3 ⟨a3, n3, c3, S, rfl, hn3, ho3, hsp, hb3⟩
  have HO3 := Lib.hid (HO2.out.below hb3)
  have HS3 := Lib.hid (HS2.out.belowN hb3 HS2.out.lt')
  obtain ⟨BS, hBS⟩ : ∃ q, w2.heap.size = q := ⟨_, rfl⟩
  have hz3 : BS ≤ w3.heap.size := by have := hb3.size; omega
  have hbS : b < BS := by have := HS2.out.lt'; omega
  have HLB : Hid (∀ g, (Value.slice a2 k2 c2).ownBlock = some g → g < BS) := Lib.hid fun g e => by have := (HO2.out.lt g e).2; omega
  have hi3 := ho3
  rw [hBS] at hi3
  have HI3 := Lib.hid hi3
  have HZ3 := Lib.hid hz3
  obtain ⟨p3, hp3e⟩ : ∃ q, p2 = q := ⟨_, rfl⟩
  obtain ⟨z3, hz3e⟩ : ∃ q, z2 = q := ⟨_, rfl⟩
  rw [hp3e, hz3e] at HS3
  clear ho3 hi3 hb3 HO2 HS2 hsp hBS
  obtain ⟨cd, hcd⟩ : ∃ z, lnC cn Lx 0 = z := ⟨_, rfl⟩
  rw [hcd]
  clear hcd
  by_cases hcd : cd = 0
  · have d1 : (cd == 0) = true := by rw [hcd]; rfl
    subst hcd
    by_cases h0 : n3 = 0
    · subst h0
      go_wp2_with fail
      refine (srcOne 16 w _ b a n c p3 z3 xs (by omega) (by omega) (by omega) HL.out HO.out HR.out HS3.out).mono ?_
      rintro e w4 ⟨B4, p4, z4, rfl, hp4, hs4, hu4⟩
      have HO4 := Lib.hid (HO3.out.draw HS3.out hs4 hu4 hbL)
      have HI4 := Lib.hid (HI3.out.draw HS3.out hs4 hu4 hbS)
      have HZ4 : Hid (BS ≤ w4.heap.size) := Lib.hid (by have := hu4.size; have := HZ3.out; omega)
      have HS4 := Lib.hid hs4
      clear hs4 hu4
      cases B4 with
      | true =>
        have h63 : 0 + 1 ≤ maxLen := by unfold maxLen; omega
        have hby : (0 + 1) * 8 ≤ 140737488355328 := by omega
        have hsz : BS ≤ w4.heap.size := HZ4.out
        go_wp2_with (at_builtin; refine wpl_app eI_len (by decide) _ rfl (.tmp 40) (.tmp 41) 27 rfl 2 (.int .i64 0) 8 rfl Try.underlying27 infoI64co BS _ 0 _ rfl w4 _ _ rfl HI4.out (0 : Int) rfl rfl (eI_one _) h63 hby hsz _ (Lib.hid rfl) ?_)
        intro a5 c5 w5 ho5 hb5 _
        have HI5 := Lib.hid ho5
        have HO5 := Lib.hid (HO4.out.belowN' hb5 HLB.out)
        have HS5 := Lib.hid (HS4.out.belowN hb5 hbS)
        clear ho5 hb5 h63 hby hsz
        go_wp2_with fail
        go_ret3
        exact ⟨cn, a2, k2, c2, Lx, a5, (0 + 1), c5, _, rfl, hk2, HC2.out, by omega, HI5.out.caps.1, HM2.out, HI5.out.len eI_len (by decide), HO5.out.rd Com.len (by decide), HI5.out.rd eI_len (by decide), HS5.out.ok⟩
      | false =>
        go_wp2_with fail
        go_ret3
        exact ⟨cn, a2, k2, c2, Lx, a3, 0, c3, S, rfl, hk2, HC2.out, by omega, HI4.out.caps.1, HM2.out, HI4.out.len eI_len (by decide), HO4.out.rd Com.len (by decide), HI4.out.rd eI_len (by decide), HS4.out.ok⟩
    · have d0 : (0 : Int) < (n3 : Int) := by omega
      go_wp2_with fail
      refine (srcOne 4 w _ b a n c p3 z3 xs (by omega) (by omega) (by omega) HL.out HO.out HR.out HS3.out).mono ?_
      rintro e w4 ⟨B4, p4, z4, rfl, hp4, hs4, hu4⟩
      have HO4 := Lib.hid (HO3.out.draw HS3.out hs4 hu4 hbL)
      have HI4 := Lib.hid (HI3.out.draw HS3.out hs4 hu4 hbS)
      have HZ4 : Hid (BS ≤ w4.heap.size) := Lib.hid (by have := hu4.size; have := HZ3.out; omega)
      have HS4 := Lib.hid hs4
      clear hs4 hu4
      cases B4 with
      | true =>
        have hbq : b < w4.heap.size := HS4.out.lt'
        have HC := CAt.new w4 #[.int .i64 (-100001), .int .i64 (-100000), .int .i64 50, .int .i64 100000, .int .i64 100001] 2
        have HSA := HS4.out.alloc' (.cells #[.int .i64 (-100001), .int .i64 (-100000), .int .i64 50, .int .i64 100000, .int .i64 100001] 2)
        have HBA := (Below.refl w4.heap.size w4).alloc (Nat.le_refl _) (.cells #[.int .i64 (-100001), .int .i64 (-100000), .int .i64 50, .int .i64 100000, .int .i64 100001] 2)
        have HOA := Lib.hid (HO4.out.below HBA)
        have HIA := Lib.hid (HI4.out.below HBA)
        have HZA : Hid (BS ≤ (w4.alloc (.cells #[.int .i64 (-100001), .int .i64 (-100000), .int .i64 50, .int .i64 100000, .int .i64 100001] 2)).heap.size) := Lib.hid (by have := HBA.size; have := HZ4.out; omega)
        have CA : Hid (Calls Try.prog 37 #[.pointer (some ⟨b, 0, none⟩), .slice (some ⟨w4.heap.size, 0, none⟩) 5 5] (w4.alloc (.cells #[.int .i64 (-100001), .int .i64 (-100000), .int .i64 50, .int .i64 100000, .int .i64 100001] 2)) fun e w' => ∃ v p' z', e = .returned (.int .i64 v) ∧ v ∈ ([-100001, -100000, 50, 100000, 100001] : List Int) ∧ p' ≤ p4 + 2 ∧ SrcAt w w' b a n c p' z' ∧ But b (w4.alloc (.cells #[.int .i64 (-100001), .int .i64 (-100000), .int .i64 50, .int .i64 100000, .int .i64 100001] 2)) w') := Lib.hid (srcAmong [-100001, -100000, 50, 100000, 100001] w4.heap.size 5 2 w _ b a n c p4 z4 xs (by omega) (by omega) rfl HC (by omega) (by omega) HL.out HO.out HR.out HSA)
        have HSA' := Lib.hid HSA
        clear HC HSA HBA hbq
        go_wp2_with fail
        refine CA.out.mono ?_
        rintro e w5 ⟨v5, p5, z5, rfl, hv5, hp5, hs5, hu5⟩
        have HO5 := Lib.hid (HOA.out.draw HSA'.out hs5 hu5 hbL)
        have hi5 := HIA.out.draw HSA'.out hs5 hu5 hbS
        have hz5 : BS ≤ w5.heap.size := by have := hu5.size; have := HZA.out; omega
        have HS5 := Lib.hid hs5
        clear hs5 hu5 hv5 CA HSA' HOA HIA HZA
        obtain ⟨g3, hg3, _, _⟩ := hi5.at_ (by omega)
        subst hg3
        have xf : w5.frozen? ⟨g3, 0, none⟩ = false := World.ownsRow.frozenAt hi5 0
        have hgS : BS ≤ g3 := hi5.ge.1
        obtain ⟨y9, hy9⟩ : ∃ y, (S)[0]? = some y := ⟨_, List.getElem?_eq_getElem (by first | (rw [hi5.len eI_len (by decide)]; omega) | simp)⟩
        have xc : w5.cell? ⟨g3, 0, none⟩ = some (.int .i64 y9) := hi5.cellI2 hy9
        have hbs : Below BS w5 (w5.setCell ⟨g3, 0, none⟩ (.int .i64 v5)) := Below.setCell (p := ⟨g3, 0, none⟩) (Below.refl BS w5) hgS _
        have HI6 := Lib.hid (hi5.setI2 0 v5)
        have HO6 := Lib.hid (HO5.out.belowN' hbs HLB.out)
        have HS6 := Lib.hid (HS5.out.belowN hbs hbS)
        have HZ6 : Hid (BS ≤ (w5.setCell ⟨g3, 0, none⟩ (.int .i64 v5)).heap.size) := Lib.hid (by have := hbs.size; omega)
        have hp6 : p5 ≤ p4 + 2 := hp5
        obtain ⟨p6, hp6e⟩ : ∃ q, p5 = q := ⟨_, rfl⟩
        obtain ⟨z6, hz6e⟩ : ∃ q, z5 = q := ⟨_, rfl⟩
        rw [hp6e, hz6e] at HS6
        clear hi5 hbs hy9
        go_upto_region 8 with (fail)
        generalize w5.setCell ⟨g3, 0, none⟩ (.int .i64 v5) = w6 at *
        clear xf xc
        go_wp2_with fail
        refine (srcOne 16 w _ b a n c p6 z6 xs (by omega) (by omega) (by omega) HL.out HO.out HR.out HS6.out).mono ?_
        rintro e w7 ⟨B7, p7, z7, rfl, hp7, hs7, hu7⟩
        have HO7 := Lib.hid (HO6.out.draw HS6.out hs7 hu7 hbL)
        have HI7 := Lib.hid (HI6.out.draw HS6.out hs7 hu7 hbS)
        have HZ7 : Hid (BS ≤ w7.heap.size) := Lib.hid (by have := hu7.size; have := HZ6.out; omega)
        have HS7 := Lib.hid hs7
        clear hs7 hu7
        cases B7 with
        | true =>
          have h63 : n3 + 1 ≤ maxLen := by unfold maxLen; omega
          have hby : (n3 + 1) * 8 ≤ 140737488355328 := by omega
          have hsz : BS ≤ w7.heap.size := HZ7.out
          go_wp2_with (at_builtin; refine wpl_app eI_len (by decide) _ rfl (.tmp 40) (.tmp 41) 27 rfl 2 (.int .i64 0) 8 rfl Try.underlying27 infoI64co BS _ n3 _ rfl w7 _ _ rfl HI7.out (0 : Int) rfl rfl (eI_one _) h63 hby hsz _ (Lib.hid rfl) ?_)
          intro a8 c8 w8 ho8 hb8 _
          have HI8 := Lib.hid ho8
          have HO8 := Lib.hid (HO7.out.belowN' hb8 HLB.out)
          have HS8 := Lib.hid (HS7.out.belowN hb8 hbS)
          clear ho8 hb8 h63 hby hsz
          go_wp2_with fail
          go_ret3
          exact ⟨cn, a2, k2, c2, Lx, a8, (n3 + 1), c8, _, rfl, hk2, HC2.out, by omega, HI8.out.caps.1, HM2.out, HI8.out.len eI_len (by decide), HO8.out.rd Com.len (by decide), HI8.out.rd eI_len (by decide), HS8.out.ok⟩
        | false =>
          go_wp2_with fail
          go_ret3
          exact ⟨cn, a2, k2, c2, Lx, (some ⟨g3, 0, none⟩), n3, c3, (S).set 0 v5, rfl, hk2, HC2.out, by omega, HI7.out.caps.1, HM2.out, HI7.out.len eI_len (by decide), HO7.out.rd Com.len (by decide), HI7.out.rd eI_len (by decide), HS7.out.ok⟩
      | false =>
        go_wp2_with fail
        refine (srcOne 16 w _ b a n c p4 z4 xs (by omega) (by omega) (by omega) HL.out HO.out HR.out HS4.out).mono ?_
        rintro e w5 ⟨B5, p5, z5, rfl, hp5, hs5, hu5⟩
        have HO5 := Lib.hid (HO4.out.draw HS4.out hs5 hu5 hbL)
        have HI5 := Lib.hid (HI4.out.draw HS4.out hs5 hu5 hbS)
        have HZ5 : Hid (BS ≤ w5.heap.size) := Lib.hid (by have := hu5.size; have := HZ4.out; omega)
        have HS5 := Lib.hid hs5
        clear hs5 hu5
        cases B5 with
        | true =>
          have h63 : n3 + 1 ≤ maxLen := by unfold maxLen; omega
          have hby : (n3 + 1) * 8 ≤ 140737488355328 := by omega
          have hsz : BS ≤ w5.heap.size := HZ5.out
          go_wp2_with (at_builtin; refine wpl_app eI_len (by decide) _ rfl (.tmp 40) (.tmp 41) 27 rfl 2 (.int .i64 0) 8 rfl Try.underlying27 infoI64co BS _ n3 _ rfl w5 _ _ rfl HI5.out (0 : Int) rfl rfl (eI_one _) h63 hby hsz _ (Lib.hid rfl) ?_)
          intro a6 c6 w6 ho6 hb6 _
          have HI6 := Lib.hid ho6
          have HO6 := Lib.hid (HO5.out.belowN' hb6 HLB.out)
          have HS6 := Lib.hid (HS5.out.belowN hb6 hbS)
          clear ho6 hb6 h63 hby hsz
          go_wp2_with fail
          go_ret3
          exact ⟨cn, a2, k2, c2, Lx, a6, (n3 + 1), c6, _, rfl, hk2, HC2.out, by omega, HI6.out.caps.1, HM2.out, HI6.out.len eI_len (by decide), HO6.out.rd Com.len (by decide), HI6.out.rd eI_len (by decide), HS6.out.ok⟩
        | false =>
          go_wp2_with fail
          go_ret3
          exact ⟨cn, a2, k2, c2, Lx, a3, n3, c3, S, rfl, hk2, HC2.out, by omega, HI5.out.caps.1, HM2.out, HI5.out.len eI_len (by decide), HO5.out.rd Com.len (by decide), HI5.out.rd eI_len (by decide), HS5.out.ok⟩
  · have d1 : (cd != 0) = true := bne_iff_ne.2 hcd
    have d2 : (cd == 0) = false := beq_eq_false_iff_ne.2 hcd
    have hmk : ∀ w : World, (Instr.makeSlice 27 (.int .i64 3) (.int .i64 3)).run Try.prog w = .ok (.slice (some ⟨w.heap.size, 0, none⟩) 3 3) (w.alloc (.cells CS 2)) := HMK.out
    have hi4 := HOWN.out w3
    have hb4 := (Below.refl w3.heap.size w3).alloc (Nat.le_refl _) (.cells CS 2)
    obtain ⟨g4, hg4⟩ : ∃ g, w3.heap.size = g := ⟨_, rfl⟩
    have hz4 : BS ≤ g4 := by rw [← hg4]; exact HZ3.out
    rw [hg4] at hi4
    have HI4 := Lib.hid (hi4.mono hz4)
    have HS4 := Lib.hid (HS3.out.alloc' (.cells CS 2))
    have HO4 := Lib.hid (HO3.out.below hb4)
    have HZ4 : Hid (BS ≤ (w3.alloc (.cells CS 2)).heap.size) := Lib.hid (by have := hb4.size; have := HZ3.out; omega)
    obtain ⟨p4, hp4e⟩ : ∃ q, p3 = q := ⟨_, rfl⟩
    obtain ⟨z4, hz4e⟩ : ∃ q, z3 = q := ⟨_, rfl⟩
    rw [hp4e, hz4e] at HS4
    clear hi4 hb4 HI3 HO3 HS3
    go_upto_region 6 with (fail)
    try rw [hg4]
    generalize w3.alloc (.cells CS 2) = w4 at *
    clear hmk
    go_wp2_with fail
    refine (srcOne 4 w _ b a n c p4 z4 xs (by omega) (by omega) (by omega) HL.out HO.out HR.out HS4.out).mono ?_
    rintro e w5 ⟨B5, p5, z5, rfl, hp5, hs5, hu5⟩
    have HO5 := Lib.hid (HO4.out.draw HS4.out hs5 hu5 hbL)
    have HI5 := Lib.hid (HI4.out.draw HS4.out hs5 hu5 hbS)
    have HZ5 : Hid (BS ≤ w5.heap.size) := Lib.hid (by have := hu5.size; have := HZ4.out; omega)
    have HS5 := Lib.hid hs5
    clear hs5 hu5
    cases B5 with
    | true =>
      have hbq : b < w5.heap.size := HS5.out.lt'
      have HC := CAt.new w5 #[.int .i64 (-100001), .int .i64 (-100000), .int .i64 50, .int .i64 100000, .int .i64 100001] 2
      have HSA := HS5.out.alloc' (.cells #[.int .i64 (-100001), .int .i64 (-100000), .int .i64 50, .int .i64 100000, .int .i64 100001] 2)
      have HBA := (Below.refl w5.heap.size w5).alloc (Nat.le_refl _) (.cells #[.int .i64 (-100001), .int .i64 (-100000), .int .i64 50, .int .i64 100000, .int .i64 100001] 2)
      have HOA := Lib.hid (HO5.out.below HBA)
      have HIA := Lib.hid (HI5.out.below HBA)
      have HZA : Hid (BS ≤ (w5.alloc (.cells #[.int .i64 (-100001), .int .i64 (-100000), .int .i64 50, .int .i64 100000, .int .i64 100001] 2)).heap.size) := Lib.hid (by have := HBA.size; have := HZ5.out; omega)
      have CA : Hid (Calls Try.prog 37 #[.pointer (some ⟨b, 0, none⟩), .slice (some ⟨w5.heap.size, 0, none⟩) 5 5] (w5.alloc (.cells #[.int .i64 (-100001), .int .i64 (-100000), .int .i64 50, .int .i64 100000, .int .i64 100001] 2)) fun e w' => ∃ v p' z', e = .returned (.int .i64 v) ∧ v ∈ ([-100001, -100000, 50, 100000, 100001] : List Int) ∧ p' ≤ p5 + 2 ∧ SrcAt w w' b a n c p' z' ∧ But b (w5.alloc (.cells #[.int .i64 (-100001), .int .i64 (-100000), .int .i64 50, .int .i64 100000, .int .i64 100001] 2)) w') := Lib.hid (srcAmong [-100001, -100000, 50, 100000, 100001] w5.heap.size 5 2 w _ b a n c p5 z5 xs (by omega) (by omega) rfl HC (by omega) (by omega) HL.out HO.out HR.out HSA)
      have HSA' := Lib.hid HSA
      clear HC HSA HBA hbq
      go_wp2_with fail
      refine CA.out.mono ?_
      rintro e w6 ⟨v6, p6, z6, rfl, hv6, hp6, hs6, hu6⟩
      have HO6 := Lib.hid (HOA.out.draw HSA'.out hs6 hu6 hbL)
      have hi6 := HIA.out.draw HSA'.out hs6 hu6 hbS
      have hz6 : BS ≤ w6.heap.size := by have := hu6.size; have := HZA.out; omega
      have HS6 := Lib.hid hs6
      clear hs6 hu6 hv6 CA HSA' HOA HIA HZA
      have xf : w6.frozen? ⟨g4, 0, none⟩ = false := World.ownsRow.frozenAt hi6 0
      have hgS : BS ≤ g4 := hi6.ge.1
      obtain ⟨y9, hy9⟩ : ∃ y, ((List.replicate 3 (0 : Int)))[0]? = some y := ⟨_, List.getElem?_eq_getElem (by first | (rw [hi6.len eI_len (by decide)]; omega) | simp)⟩
      have xc : w6.cell? ⟨g4, 0, none⟩ = some (.int .i64 y9) := hi6.cellI2 hy9
      have hbs : Below BS w6 (w6.setCell ⟨g4, 0, none⟩ (.int .i64 v6)) := Below.setCell (p := ⟨g4, 0, none⟩) (Below.refl BS w6) hgS _
      have HI7 := Lib.hid (hi6.setI2 0 v6)
      have HO7 := Lib.hid (HO6.out.belowN' hbs HLB.out)
      have HS7 := Lib.hid (HS6.out.belowN hbs hbS)
      have HZ7 : Hid (BS ≤ (w6.setCell ⟨g4, 0, none⟩ (.int .i64 v6)).heap.size) := Lib.hid (by have := hbs.size; omega)
      have hp7 : p6 ≤ p5 + 2 := hp6
      obtain ⟨p7, hp7e⟩ : ∃ q, p6 = q := ⟨_, rfl⟩
      obtain ⟨z7, hz7e⟩ : ∃ q, z6 = q := ⟨_, rfl⟩
      rw [hp7e, hz7e] at HS7
      clear hi6 hbs hy9
      go_upto_region 8 with (fail)
      generalize w6.setCell ⟨g4, 0, none⟩ (.int .i64 v6) = w7 at *
      clear xf xc
      go_wp2_with fail
      refine (srcOne 16 w _ b a n c p7 z7 xs (by omega) (by omega) (by omega) HL.out HO.out HR.out HS7.out).mono ?_
      rintro e w8 ⟨B8, p8, z8, rfl, hp8, hs8, hu8⟩
      have HO8 := Lib.hid (HO7.out.draw HS7.out hs8 hu8 hbL)
      have HI8 := Lib.hid (HI7.out.draw HS7.out hs8 hu8 hbS)
      have HZ8 : Hid (BS ≤ w8.heap.size) := Lib.hid (by have := hu8.size; have := HZ7.out; omega)
      have HS8 := Lib.hid hs8
      clear hs8 hu8
      cases B8 with
      | true =>
        have h63 : 3 + 1 ≤ maxLen := by unfold maxLen; omega
        have hby : (3 + 1) * 8 ≤ 140737488355328 := by omega
        have hsz : BS ≤ w8.heap.size := HZ8.out
        go_wp2_with (at_builtin; refine wpl_app eI_len (by decide) _ rfl (.tmp 40) (.tmp 41) 27 rfl 2 (.int .i64 0) 8 rfl Try.underlying27 infoI64co BS _ 3 _ rfl w8 _ _ rfl HI8.out (0 : Int) rfl rfl (eI_one _) h63 hby hsz _ (Lib.hid rfl) ?_)
        intro a9 c9 w9 ho9 hb9 _
        have HI9 := Lib.hid ho9
        have HO9 := Lib.hid (HO8.out.belowN' hb9 HLB.out)
        have HS9 := Lib.hid (HS8.out.belowN hb9 hbS)
        clear ho9 hb9 h63 hby hsz
        go_wp2_with fail
        go_ret3
        exact ⟨cn, a2, k2, c2, Lx, a9, (3 + 1), c9, _, rfl, hk2, HC2.out, by omega, HI9.out.caps.1, HM2.out, HI9.out.len eI_len (by decide), HO9.out.rd Com.len (by decide), HI9.out.rd eI_len (by decide), HS9.out.ok⟩
      | false =>
        go_wp2_with fail
        go_ret3
        exact ⟨cn, a2, k2, c2, Lx, (some ⟨g4, 0, none⟩), 3, 3, ((List.replicate 3 (0 : Int))).set 0 v6, rfl, hk2, HC2.out, by omega, HI8.out.caps.1, HM2.out, HI8.out.len eI_len (by decide), HO8.out.rd Com.len (by decide), HI8.out.rd eI_len (by decide), HS8.out.ok⟩
    | false =>
      go_wp2_with fail
      refine (srcOne 16 w _ b a n c p5 z5 xs (by omega) (by omega) (by omega) HL.out HO.out HR.out HS5.out).mono ?_
      rintro e w6 ⟨B6, p6, z6, rfl, hp6, hs6, hu6⟩
      have HO6 := Lib.hid (HO5.out.draw HS5.out hs6 hu6 hbL)
      have HI6 := Lib.hid (HI5.out.draw HS5.out hs6 hu6 hbS)
      have HZ6 : Hid (BS ≤ w6.heap.size) := Lib.hid (by have := hu6.size; have := HZ5.out; omega)
      have HS6 := Lib.hid hs6
      clear hs6 hu6
      cases B6 with
      | true =>
        have h63 : 3 + 1 ≤ maxLen := by unfold maxLen; omega
        have hby : (3 + 1) * 8 ≤ 140737488355328 := by omega
        have hsz : BS ≤ w6.heap.size := HZ6.out
        go_wp2_with (at_builtin; refine wpl_app eI_len (by decide) _ rfl (.tmp 40) (.tmp 41) 27 rfl 2 (.int .i64 0) 8 rfl Try.underlying27 infoI64co BS _ 3 _ rfl w6 _ _ rfl HI6.out (0 : Int) rfl rfl (eI_one _) h63 hby hsz _ (Lib.hid rfl) ?_)
        intro a7 c7 w7 ho7 hb7 _
        have HI7 := Lib.hid ho7
        have HO7 := Lib.hid (HO6.out.belowN' hb7 HLB.out)
        have HS7 := Lib.hid (HS6.out.belowN hb7 hbS)
        clear ho7 hb7 h63 hby hsz
        go_wp2_with fail
        go_ret3
        exact ⟨cn, a2, k2, c2, Lx, a7, (3 + 1), c7, _, rfl, hk2, HC2.out, by omega, HI7.out.caps.1, HM2.out, HI7.out.len eI_len (by decide), HO7.out.rd Com.len (by decide), HI7.out.rd eI_len (by decide), HS7.out.ok⟩
      | false =>
        go_wp2_with fail
        go_ret3
        exact ⟨cn, a2, k2, c2, Lx, (some ⟨g4, 0, none⟩), 3, 3, (List.replicate 3 (0 : Int)), rfl, hk2, HC2.out, by omega, HI6.out.caps.1, HM2.out, HI6.out.len eI_len (by decide), HO6.out.rd Com.len (by decide), HI6.out.rd eI_len (by decide), HS6.out.ok⟩
end Go.Proofs.Ytdcldiadjdpaeaa
