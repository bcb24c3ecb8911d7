/-
  The answers of the program and of the reference on alerts, alike whether they are errors or not.
-/
import Derived.Test.YtjmojfbebcgjeaaDoorOu7
import Derived.Laws.StructEq
namespace Go.Proofs.YtjmojfbebcgjeaaDoor
open Go.RowKit
set_option maxRecDepth 100000
def AlT (w : World) (L : List Alt) (e : Ending) (w' : World) : Prop := ∃ (a' : Option Addr) (k c' : Nat), e = .returned (.tuple #[.slice a' k c', .int .i64 0]) ∧ Ow Alt.enc 3 w' w.heap.size 60 (.slice a' k c') k L ∧ Below w.heap.size w w'
theorem stN_len' (s : Nat → Bool) (n : Nat) : (stN s n).length = n := stN_len s n
set_option maxHeartbeats 2000000 in
theorem outbursts_any (ps : List Pt) (a : Option Addr) (n c : Nat) (x y : Int) (w : World) (hn : n ≤ 200) (hl : ps.length = n) (hr : Rd Pt.enc 2 w a ps) (hv : Pt.allOk ps = true) : Calls Tryd.prog 68 #[.slice a n c, .agg #[.int .i64 x, .int .i64 y]] w (AlP w (alN min (oS ps x y) ps n)) := by
  have HL := Lib.hid hl
  have HR := Lib.hid hr
  have HCU := Lib.hid (CuOk.of hv)
  clear hl hr hv
  obtain ⟨hx0, hxb, hxs⟩ := bx1 w #[.int .i64 x, .int .i64 y] 56
  obtain ⟨wE, hwE⟩ : ∃ wE, (w.alloc (.cells #[.int .i64 x, .int .i64 y] 56)) = wE := ⟨_, rfl⟩
  rw [hwE] at hx0 hxb hxs
  have HX0 := Lib.hid hx0
  have HXB := Lib.hid hxb
  have HXS := Lib.hid hxs
  have HWE := Lib.hid hwE
  clear hx0 hxb hxs hwE
  go_enter Tryd.func68, Tryd.ntmps68
  go_upto_region 1 with (fail)
  rw [HWE.out]
  clear HWE
  have hq0 := HX0.out.below (Below.refl wE.heap.size wE)
  have c00 : wE.cell? ⟨w.heap.size, 0, none⟩ = some (.int .i64 x) := hq0.cell 0
  have c01 : wE.cell? ⟨w.heap.size, 1, none⟩ = some (.int .i64 y) := hq0.cell 1
  clear hq0
  go_wp2_with fail
  refine (oStates_any ps a n c x y _ hn HL.out (HR.out.below HXB.out)).mono ?_
  rintro e w1 ⟨a1, c1, rfl, ho, hb1⟩
  have HB1 := Lib.hid (hb1)
  clear hb1
  clear c00 c01
  have HRB := Lib.hid (ho.rd eBo_len (by decide))
  clear ho
  have hq0 := HX0.out.below HB1.out
  have c00 : w1.cell? ⟨w.heap.size, 0, none⟩ = some (.int .i64 x) := hq0.cell 0
  have c01 : w1.cell? ⟨w.heap.size, 1, none⟩ = some (.int .i64 y) := hq0.cell 1
  clear hq0
  go_wp2_with fail
  refine (alerts_any (oS ps x y) min 94 #[] (fun a => by omega) ps a a1 n c c1 _ HL.out HCU.out rfl (HR.out.below (HXB.out.trans (HB1.out.mono HXB.out.size))) HRB.out (by intro args wx; kernel_rfl) (fun x y w' => by simpa using lesser_any x y w')).mono ?_
  rintro e w2 ⟨a', k', c', rfl, ho, hb2⟩
  have HB2 := Lib.hid (HB1.out.trans (hb2.mono HB1.out.size))
  clear hb2
  clear c00 c01
  have HBS := Lib.hid (Nat.le_trans HXB.out.size HB1.out.size)
  have HO := Lib.hid (ho.mono HBS.out)
  clear ho
  have hq0 := HX0.out.below HB2.out
  have c00 : w2.cell? ⟨w.heap.size, 0, none⟩ = some (.int .i64 x) := hq0.cell 0
  have c01 : w2.cell? ⟨w.heap.size, 1, none⟩ = some (.int .i64 y) := hq0.cell 1
  clear hq0
  go_wp2_with fail
  go_ret
  exact ⟨a', k', c', rfl, HO.out, (HXB.out.trans (HB2.out.mono HXB.out.size))⟩
theorem implOu_bad (ps : List Pt) (a : Option Addr) (n c : Nat) (x y : Int) (w : World) (hn : n ≤ 200) (hl : ps.length = n) (hr : Rd Pt.enc 2 w a ps) (hc : thCode ps x y ≠ 0) : Calls Tryd.prog 35 #[.slice a n c, .agg #[.int .i64 x, .int .i64 y]] w fun e w' => e = .returned (.tuple #[.slice none 0 0, .int .i64 1]) ∧ Below w.heap.size w w' := by
  cases hv : Pt.allOk ps with
  | false =>
    have C1 := Lib.hid (fun wq hq => ValidCurve_any ps a n c wq (by omega) hl hq)
    have C2 := Lib.hid (fun wq => implTh_any x y wq)
    have HL := Lib.hid hl
    have HR := Lib.hid hr
    rw [hv] at C1
    clear hl hr hv
    obtain ⟨hx0, hxb, hxs⟩ := bx1 w #[.int .i64 x, .int .i64 y] 56
    obtain ⟨wE, hwE⟩ : ∃ wE, (w.alloc (.cells #[.int .i64 x, .int .i64 y] 56)) = wE := ⟨_, rfl⟩
    rw [hwE] at hx0 hxb hxs
    have HX0 := Lib.hid hx0
    have HXB := Lib.hid hxb
    have HXS := Lib.hid hxs
    have HWE := Lib.hid hwE
    clear hx0 hxb hxs hwE
    go_enter Tryd.func35, Tryd.ntmps35
    go_upto_region 1 with (fail)
    rw [HWE.out]
    clear HWE
    have hq0 := HX0.out.below (Below.refl wE.heap.size wE)
    have c00 : wE.cell? ⟨w.heap.size, 0, none⟩ = some (.int .i64 x) := hq0.cell 0
    have c01 : wE.cell? ⟨w.heap.size, 1, none⟩ = some (.int .i64 y) := hq0.cell 1
    clear hq0
    go_wp2_with fail
    refine (C1.out _ (HR.out.below HXB.out)).mono ?_
    rintro e w1 ⟨rfl, hb1⟩
    have HB1 := Lib.hid (hb1)
    clear hb1
    clear c00 c01
    have hq0 := HX0.out.below HB1.out
    have c00 : w1.cell? ⟨w.heap.size, 0, none⟩ = some (.int .i64 x) := hq0.cell 0
    have c01 : w1.cell? ⟨w.heap.size, 1, none⟩ = some (.int .i64 y) := hq0.cell 1
    clear hq0
    go_wp2_with fail
    go_ret2
    exact ⟨rfl, (HXB.out.trans (HB1.out.mono HXB.out.size))⟩
  | true =>
    cases ht : thB x y with
    | false =>
      have C1 := Lib.hid (fun wq hq => ValidCurve_any ps a n c wq (by omega) hl hq)
      have C2 := Lib.hid (fun wq => implTh_any x y wq)
      have HL := Lib.hid hl
      have HR := Lib.hid hr
      rw [hv] at C1
      rw [ht] at C2
      clear hl hr hv ht
      obtain ⟨hx0, hxb, hxs⟩ := bx1 w #[.int .i64 x, .int .i64 y] 56
      obtain ⟨wE, hwE⟩ : ∃ wE, (w.alloc (.cells #[.int .i64 x, .int .i64 y] 56)) = wE := ⟨_, rfl⟩
      rw [hwE] at hx0 hxb hxs
      have HX0 := Lib.hid hx0
      have HXB := Lib.hid hxb
      have HXS := Lib.hid hxs
      have HWE := Lib.hid hwE
      clear hx0 hxb hxs hwE
      go_enter Tryd.func35, Tryd.ntmps35
      go_upto_region 1 with (fail)
      rw [HWE.out]
      clear HWE
      have hq0 := HX0.out.below (Below.refl wE.heap.size wE)
      have c00 : wE.cell? ⟨w.heap.size, 0, none⟩ = some (.int .i64 x) := hq0.cell 0
      have c01 : wE.cell? ⟨w.heap.size, 1, none⟩ = some (.int .i64 y) := hq0.cell 1
      clear hq0
      go_wp2_with fail
      refine (C1.out _ (HR.out.below HXB.out)).mono ?_
      rintro e w1 ⟨rfl, hb1⟩
      have HB1 := Lib.hid (hb1)
      clear hb1
      clear c00 c01
      have hq0 := HX0.out.below HB1.out
      have c00 : w1.cell? ⟨w.heap.size, 0, none⟩ = some (.int .i64 x) := hq0.cell 0
      have c01 : w1.cell? ⟨w.heap.size, 1, none⟩ = some (.int .i64 y) := hq0.cell 1
      clear hq0
      go_wp2_with fail
      refine (C2.out _).mono ?_
      rintro e w2 ⟨rfl, hb2⟩
      have HB2 := Lib.hid (HB1.out.trans (hb2.mono HB1.out.size))
      clear hb2
      clear c00 c01
      have hq0 := HX0.out.below HB2.out
      have c00 : w2.cell? ⟨w.heap.size, 0, none⟩ = some (.int .i64 x) := hq0.cell 0
      have c01 : w2.cell? ⟨w.heap.size, 1, none⟩ = some (.int .i64 y) := hq0.cell 1
      clear hq0
      go_wp2_with fail
      go_ret2
      exact ⟨rfl, (HXB.out.trans (HB2.out.mono HXB.out.size))⟩
    | true => exact absurd (by simp [thCode, hv, ht]) hc
theorem implOu_ok (ps : List Pt) (a : Option Addr) (n c : Nat) (x y : Int) (w : World) (hn : n ≤ 200) (hl : ps.length = n) (hr : Rd Pt.enc 2 w a ps) (hv : Pt.allOk ps = true) (ht : thB x y = true) : Calls Tryd.prog 35 #[.slice a n c, .agg #[.int .i64 x, .int .i64 y]] w (AlT w (alN min (oS ps x y) ps n)) := by
  have C1 := Lib.hid (fun wq hq => ValidCurve_any ps a n c wq (by omega) hl hq)
  have C2 := Lib.hid (fun wq => implTh_any x y wq)
  have HL := Lib.hid hl
  have HR := Lib.hid hr
  have HV := Lib.hid hv
  rw [hv] at C1
  rw [ht] at C2
  clear hl hr hv ht
  obtain ⟨hx0, hxb, hxs⟩ := bx1 w #[.int .i64 x, .int .i64 y] 56
  obtain ⟨wE, hwE⟩ : ∃ wE, (w.alloc (.cells #[.int .i64 x, .int .i64 y] 56)) = wE := ⟨_, rfl⟩
  rw [hwE] at hx0 hxb hxs
  have HX0 := Lib.hid hx0
  have HXB := Lib.hid hxb
  have HXS := Lib.hid hxs
  have HWE := Lib.hid hwE
  clear hx0 hxb hxs hwE
  go_enter Tryd.func35, Tryd.ntmps35
  go_upto_region 1 with (fail)
  rw [HWE.out]
  clear HWE
  have hq0 := HX0.out.below (Below.refl wE.heap.size wE)
  have c00 : wE.cell? ⟨w.heap.size, 0, none⟩ = some (.int .i64 x) := hq0.cell 0
  have c01 : wE.cell? ⟨w.heap.size, 1, none⟩ = some (.int .i64 y) := hq0.cell 1
  clear hq0
  go_wp2_with fail
  refine (C1.out _ (HR.out.below HXB.out)).mono ?_
  rintro e w1 ⟨rfl, hb1⟩
  have HB1 := Lib.hid (hb1)
  clear hb1
  clear c00 c01
  have hq0 := HX0.out.below HB1.out
  have c00 : w1.cell? ⟨w.heap.size, 0, none⟩ = some (.int .i64 x) := hq0.cell 0
  have c01 : w1.cell? ⟨w.heap.size, 1, none⟩ = some (.int .i64 y) := hq0.cell 1
  clear hq0
  go_wp2_with fail
  refine (C2.out _).mono ?_
  rintro e w2 ⟨rfl, hb2⟩
  have HB2 := Lib.hid (HB1.out.trans (hb2.mono HB1.out.size))
  clear hb2
  clear c00 c01
  have hq0 := HX0.out.below HB2.out
  have c00 : w2.cell? ⟨w.heap.size, 0, none⟩ = some (.int .i64 x) := hq0.cell 0
  have c01 : w2.cell? ⟨w.heap.size, 1, none⟩ = some (.int .i64 y) := hq0.cell 1
  clear hq0
  go_wp2_with fail
  refine (outbursts_any ps a n c x y _ hn HL.out (HR.out.below (HXB.out.trans (HB2.out.mono HXB.out.size))) HV.out).mono ?_
  rintro e w3 ⟨a', k', c', rfl, ho, hb3⟩
  have HB3 := Lib.hid (HB2.out.trans (hb3.mono HB2.out.size))
  clear hb3
  clear c00 c01
  have HBS := Lib.hid (Nat.le_trans HXB.out.size HB2.out.size)
  have HO := Lib.hid (ho.mono HBS.out)
  clear ho
  have hq0 := HX0.out.below HB3.out
  have c00 : w3.cell? ⟨w.heap.size, 0, none⟩ = some (.int .i64 x) := hq0.cell 0
  have c01 : w3.cell? ⟨w.heap.size, 1, none⟩ = some (.int .i64 y) := hq0.cell 1
  clear hq0
  go_wp2_with fail
  go_ret2
  exact ⟨a', k', c', rfl, HO.out, (HXB.out.trans (HB3.out.mono HXB.out.size))⟩
open Go.RowKit
set_option maxRecDepth 100000
open Go.RowKit
set_option maxRecDepth 100000
theorem nb {b : Bool} {P : Prop} (h : b = true ↔ P) (hn : ¬ P) : b = false := by cases b with
  | false => rfl
  | true => exact absurd (h.1 rfl) hn
theorem badI {l : List Alt} {k : Nat} {a : Alt} {b : Bool} (hb : b = true ↔ AOkI l) (hx : l[k]? = some a) (h : ¬ OkI l k a) : b = false := nb hb fun H => h (H.2 k a hx)
theorem badS {l : List Alt} {k : Nat} {a : Alt} {b : Bool} (hb : b = true ↔ AOk l) (hx : l[k]? = some a) (h : ¬ OkS l k a) : b = false := nb hb fun H => h (H.2 k a hx)
theorem stepAll {l : List Alt} {R : Nat → Alt → Prop} {k : Nat} {a : Alt} (h : ∀ i, i < k → ∀ x, l[i]? = some x → R i x) (hx : l[k]? = some a) (ha : R k a) : ∀ i, i < k + 1 → ∀ x, l[i]? = some x → R i x := fun i hi x hix => by
  by_cases h1 : i = k
  · subst h1
    rw [hx] at hix; cases hix
    exact ha
  · exact h i (by omega) x hix
theorem ended_iff {a : Alt} : Ended a ↔ inB a.fin (a.beg + 1) 10000000 = true := by rw [inB_iff]; rfl
set_option maxHeartbeats 4000000 in
theorem areAlerts_any (ls : List Alt) (b : Bool) (a : Option Addr) (n c : Nat) (w : World) (hn : n ≤ 1048576) (hl : ls.length = n) (hr : Rd Alt.enc 3 w a ls) (hb : b = true ↔ AOkI ls) : Calls Tryd.prog 64 #[.slice a n c] w fun e w' => e = .returned (.bool b) ∧ Below w.heap.size w w' := by
  by_cases h50 : n ≤ 50
  case neg =>
    have HBF := Lib.hid (nb hb fun H => absurd H.1 (by omega))
    have hmx' : (50 : Int) < n := by omega
    clear hl hr hb
    go_enter Tryd.func64, Tryd.ntmps64
    go_wp2_with fail
    go_ret
    exact ⟨by rw [HBF.out]; rfl, Below.refl _ _⟩
  have HL := Lib.hid hl
  have HR := Lib.hid hr
  have HBB := Lib.hid hb
  clear hl hr hb
  go_enter Tryd.func64, Tryd.ntmps64
  go_wp2_with fail
  go_loopw [12] (fun i wr => ∃ k : Nat, k ≤ n ∧ i = .int .i64 k ∧ Hid (∀ i, i < k → ∀ x, ls[i]? = some x → OkI ls i x) ∧ Below w.heap.size w wr) (fun i _ => n - (intOf i).toNat)
  case atStart => exact ⟨0, Nat.zero_le _, rfl, Lib.hid fun i hi => absurd hi (by omega), Below.refl _ _⟩
  case round =>
    obtain ⟨k, hk, rfl, HK, hb⟩ := hrel
    by_cases hlt : k < n
    · obtain ⟨x, hx⟩ : ∃ z, ls[k]? = some z := ⟨_, List.getElem?_eq_getElem (by rw [HL.out]; exact hlt)⟩
      obtain ⟨b1, o1, hab1, hbl1, hc1⟩ := (HR.out.below hb) k x hx
      have c0 := hc1 0 _ rfl
      have c1 := hc1 1 _ rfl
      have c2 := hc1 2 _ rfl
      rw [Nat.add_zero] at c0
      subst hab1
      have HX := Lib.hid hx
      have HCN := Lib.hid (CAt.new wr #[.int .i64 x.beg, .int .i64 x.fin, .int .i64 x.peak] 60)
      have HB4 := Lib.hid (hb.alloc hb.size (.cells #[.int .i64 x.beg, .int .i64 x.fin, .int .i64 x.peak] 60))
      clear hc1 hx
      obtain ⟨wA, hwA⟩ : ∃ wA, wr.alloc (.cells #[.int .i64 x.beg, .int .i64 x.fin, .int .i64 x.peak] 60) = wA := ⟨_, rfl⟩
      obtain ⟨gx, hgx⟩ : ∃ gx, wr.heap.size = gx := ⟨_, rfl⟩
      rw [hwA] at HCN HB4
      rw [hgx] at HCN
      have HC4 := HCN
      have HWA := Lib.hid hwA
      have HGX := Lib.hid hgx
      have HB0 := Lib.hid hb
      clear hwA hgx hb
      go_upto_region 6 with (fail)
      rw [HWA.out, HGX.out]
      clear HWA HGX c0 c1 c2
      have e0 : wA.cell? ⟨gx, 0, none⟩ = some (.int .i64 x.beg) := HCN.out.cell 0
      have e1 : wA.cell? ⟨gx, 1, none⟩ = some (.int .i64 x.fin) := HCN.out.cell 1
      have e2 : wA.cell? ⟨gx, 2, none⟩ = some (.int .i64 x.peak) := HCN.out.cell 2
      cases h1 : inB x.beg 0 10000000 with
      | false =>
        have HBF := Lib.hid (badI HBB.out HX.out (fun H => by have := H.1; rw [inB_iff.2 this] at h1; cases h1))
        have H1 := Lib.hid h1
        clear h1
        go_wp2_with fail
        refine (ValidTime_lit _ _ _ H1.out).mono ?_
        rintro e wz ⟨rfl, rfl⟩
        go_wp2_with fail
        go_ret
        exact ⟨by rw [HBF.out]; rfl, HB4.out⟩
      | true =>
        have H1 := Lib.hid h1
        clear h1
        cases h2 : inB x.peak (-2000) 20000 with
        | false =>
          have HBF := Lib.hid (badI HBB.out HX.out (fun H => by have := H.2.1; rw [inB_iff.2 this] at h2; cases h2))
          have H2 := Lib.hid h2
          clear h2
          go_wp2_with fail
          refine (ValidTime_lit _ _ _ H1.out).mono ?_
          rintro e wz ⟨rfl, rfl⟩
          go_wp2_with fail
          refine (ValidMag_lit _ _ _ H2.out).mono ?_
          rintro e wz ⟨rfl, rfl⟩
          go_wp2_with fail
          go_ret
          exact ⟨by rw [HBF.out]; rfl, HB4.out⟩
        | true =>
          have H2 := Lib.hid h2
          clear h2
          have b1 := inB_iff.1 H1.out
          have b2 := inB_iff.1 H2.out
          go_upto_region 7 with (fail)
          refine (ValidTime_lit _ _ _ H1.out).mono ?_
          rintro e wz ⟨rfl, rfl⟩
          go_wp2_with fail
          refine (ValidMag_lit _ _ _ H2.out).mono ?_
          rintro e wz ⟨rfl, rfl⟩
          have i0 : IntKind.i64.wrap ((n : Int) - 1) = (n : Int) - 1 := IntWalk.i64_in _ (by omega)
          have i1 : IntKind.i64.wrap (x.beg + 1) = x.beg + 1 := IntWalk.i64_in _ (by omega)
          cases hE : inB x.fin (x.beg + 1) 10000000 with
          | false =>
            have HE := Lib.hid hE
            have HNE : Hid (¬ Ended x) := Lib.hid fun H => by rw [ended_iff.1 H] at hE; cases hE
            clear hE
            by_cases hlast : (k : Int) = (n : Int) - 1
            · have d5 : ((k : Int) == (n : Int) - 1) = true := by simpa using hlast
              by_cases hfm : x.fin = -1
              · have HNX := Lib.hid (stepAll HK.out HX.out ⟨b1, b2, .inl ⟨by rw [HL.out]; omega, .inl hfm⟩⟩)
                have HFM := Lib.hid hfm
                have d6 : (x.fin != -1) = false := by simp [hfm]
                clear hlast hfm
                go_wp2_with fail
                go_quiet ((first | (go_at_call 40; exact quiet_sameT (in_lit _ _ _ false _ HE.out))))
                have HB5 : Hid (Below w.heap.size w (wA.drewN nq)) := Lib.hid (below_drewN HB4.out nq)
                have HC5 : Hid (CAt (wA.drewN nq) gx #[.int .i64 x.beg, .int .i64 x.fin, .int .i64 x.peak] 60) := Lib.hid (HC4.out.below (below_drewN (Below.refl _ _) nq))
                obtain ⟨w5, hw5⟩ : ∃ wq, wA.drewN nq = wq := ⟨_, rfl⟩
                rw [hw5] at HB5 HC5 ⊢
                clear hw5 e0 e1 e2 d5
                have e1 : w5.cell? ⟨gx, 1, none⟩ = some (.int .i64 x.fin) := HC5.out.cell 1
                go_wp2_with fail
                go_roundw
                case rel => exact ⟨k + 1, by omega, by go_num, HNX, HB5.out⟩
                case measure => simp [intOf]; omega
              · have HBF := Lib.hid (badI HBB.out HX.out (fun H => by rcases H.2.2 with ⟨_, h | h⟩ | ⟨y, _, h, _⟩; exact hfm h; exact HNE.out h; exact HNE.out h))
                have d6 : (x.fin != -1) = true := by simpa using hfm
                clear hlast hfm
                go_wp2_with fail
                go_quiet ((first | (go_at_call 40; exact quiet_sameT (in_lit _ _ _ false _ HE.out))))
                have HB5 : Hid (Below w.heap.size w (wA.drewN nq)) := Lib.hid (below_drewN HB4.out nq)
                have HC5 : Hid (CAt (wA.drewN nq) gx #[.int .i64 x.beg, .int .i64 x.fin, .int .i64 x.peak] 60) := Lib.hid (HC4.out.below (below_drewN (Below.refl _ _) nq))
                obtain ⟨w5, hw5⟩ : ∃ wq, wA.drewN nq = wq := ⟨_, rfl⟩
                rw [hw5] at HB5 HC5 ⊢
                clear hw5 e0 e1 e2 d5
                have e1 : w5.cell? ⟨gx, 1, none⟩ = some (.int .i64 x.fin) := HC5.out.cell 1
                go_wp2_with fail
                go_ret
                exact ⟨by rw [HBF.out]; rfl, HB5.out⟩
            · have d5 : ((k : Int) == (n : Int) - 1) = false := by simpa using hlast
              have HBF := Lib.hid (badI HBB.out HX.out (fun H => by rcases H.2.2 with ⟨h, _⟩ | ⟨y, _, h, _⟩; rw [HL.out] at h; omega; exact HNE.out h))
              clear hlast
              go_wp2_with fail
              go_quiet ((first | (go_at_call 40; exact quiet_sameT (in_lit _ _ _ false _ HE.out))))
              have HB5 : Hid (Below w.heap.size w (wA.drewN nq)) := Lib.hid (below_drewN HB4.out nq)
              have HC5 : Hid (CAt (wA.drewN nq) gx #[.int .i64 x.beg, .int .i64 x.fin, .int .i64 x.peak] 60) := Lib.hid (HC4.out.below (below_drewN (Below.refl _ _) nq))
              obtain ⟨w5, hw5⟩ : ∃ wq, wA.drewN nq = wq := ⟨_, rfl⟩
              rw [hw5] at HB5 HC5 ⊢
              clear hw5 e0 e1 e2 d5
              have e1 : w5.cell? ⟨gx, 1, none⟩ = some (.int .i64 x.fin) := HC5.out.cell 1
              go_wp2_with fail
              go_ret
              exact ⟨by rw [HBF.out]; rfl, HB5.out⟩
          | true =>
            have HE := Lib.hid hE
            have HNE : Hid (Ended x) := Lib.hid (ended_iff.2 hE)
            clear hE
            by_cases hlast : (k : Int) = (n : Int) - 1
            · have d5 : ((k : Int) == (n : Int) - 1) = true := by simpa using hlast
              have HNX := Lib.hid (stepAll HK.out HX.out ⟨b1, b2, .inl ⟨by rw [HL.out]; omega, .inr HNE.out⟩⟩)
              clear hlast
              go_wp2_with fail
              go_quiet ((first | (go_at_call 40; exact quiet_sameT (in_lit _ _ _ true _ HE.out))))
              have HB5 : Hid (Below w.heap.size w (wA.drewN nq)) := Lib.hid (below_drewN HB4.out nq)
              have HC5 : Hid (CAt (wA.drewN nq) gx #[.int .i64 x.beg, .int .i64 x.fin, .int .i64 x.peak] 60) := Lib.hid (HC4.out.below (below_drewN (Below.refl _ _) nq))
              obtain ⟨w5, hw5⟩ : ∃ wq, wA.drewN nq = wq := ⟨_, rfl⟩
              rw [hw5] at HB5 HC5 ⊢
              clear hw5 e0 e1 e2 d5
              have e1 : w5.cell? ⟨gx, 1, none⟩ = some (.int .i64 x.fin) := HC5.out.cell 1
              go_wp2_with fail
              go_roundw
              case rel => exact ⟨k + 1, by omega, by go_num, HNX, HB5.out⟩
              case measure => simp [intOf]; omega
            · have d5 : ((k : Int) == (n : Int) - 1) = false := by simpa using hlast
              obtain ⟨y, hy⟩ : ∃ z, ls[k + 1]? = some z := ⟨_, List.getElem?_eq_getElem (by rw [HL.out]; omega)⟩
              obtain ⟨b3, o3, hab3, _, hc3⟩ := (HR.out.below HB4.out) (k + 1) y hy
              simp only [Option.some.injEq, Addr.mk.injEq, and_true] at hab3
              obtain ⟨rfl, rfl⟩ := hab3
              have y0 := hc3 0 _ rfl
              rw [Nat.add_zero] at y0
              have HY := Lib.hid hy
              have i2 : IntKind.i64.wrap ((k : Int) + 1) = (k : Int) + 1 := IntWalk.i64_in _ (by omega)
              have j0 : (0 : Int) ≤ (k : Int) + 1 := by omega
              have j1 : (k : Int) + 1 < (n : Int) := by omega
              have j2 : ((k : Int) + 1).toNat = k + 1 := by omega
              clear hc3 hy
              by_cases hD : x.fin < y.beg
              · have HNX := Lib.hid (stepAll HK.out HX.out ⟨b1, b2, .inr ⟨y, HY.out, HNE.out, hD⟩⟩)
                have d7 : decide (x.fin < y.beg) = true := by simpa using hD
                clear hlast hD
                go_wp2_with fail
                go_quiet ((first | (go_at_call 40; exact quiet_sameT (in_lit _ _ _ true _ HE.out))))
                have HB5 : Hid (Below w.heap.size w (wA.drewN nq)) := Lib.hid (below_drewN HB4.out nq)
                have HC5 : Hid (CAt (wA.drewN nq) gx #[.int .i64 x.beg, .int .i64 x.fin, .int .i64 x.peak] 60) := Lib.hid (HC4.out.below (below_drewN (Below.refl _ _) nq))
                obtain ⟨w5, hw5⟩ : ∃ wq, wA.drewN nq = wq := ⟨_, rfl⟩
                rw [hw5] at HB5 HC5 ⊢
                clear hw5 e0 e1 e2 d5
                have e1 : w5.cell? ⟨gx, 1, none⟩ = some (.int .i64 x.fin) := HC5.out.cell 1
                clear y0 d7 i2
                go_wp2_with fail
                go_roundw
                case rel => exact ⟨k + 1, by omega, by go_num, HNX, HB5.out⟩
                case measure => simp [intOf]; omega
              · have HBF := Lib.hid (badI HBB.out HX.out (fun H => by rcases H.2.2 with ⟨h, _⟩ | ⟨y', hy', _, h⟩; rw [HL.out] at h; omega; rw [HY.out] at hy'; cases hy'; exact hD h))
                have d7 : decide (x.fin < y.beg) = false := by simpa using hD
                clear hlast hD
                go_wp2_with fail
                go_quiet ((first | (go_at_call 40; exact quiet_sameT (in_lit _ _ _ true _ HE.out))))
                have HB5 : Hid (Below w.heap.size w (wA.drewN nq)) := Lib.hid (below_drewN HB4.out nq)
                have HC5 : Hid (CAt (wA.drewN nq) gx #[.int .i64 x.beg, .int .i64 x.fin, .int .i64 x.peak] 60) := Lib.hid (HC4.out.below (below_drewN (Below.refl _ _) nq))
                obtain ⟨w5, hw5⟩ : ∃ wq, wA.drewN nq = wq := ⟨_, rfl⟩
                rw [hw5] at HB5 HC5 ⊢
                clear hw5 e0 e1 e2 d5
                have e1 : w5.cell? ⟨gx, 1, none⟩ = some (.int .i64 x.fin) := HC5.out.cell 1
                clear y0 d7 i2
                go_wp2_with fail
                go_ret
                exact ⟨by rw [HBF.out]; rfl, HB5.out⟩
    · obtain rfl : k = n := by omega
      have HBT := Lib.hid (HBB.out.2 ⟨by rw [HL.out]; exact h50, fun i x hx => HK.out i (by have := (List.getElem?_eq_some_iff.1 hx).1; rw [HL.out] at this; exact this) x hx⟩)
      go_wp2_with fail
      go_ret
      exact ⟨by rw [HBT.out]; rfl, hb⟩
set_option maxHeartbeats 8000000 in
theorem l19List_any (ls : List Alt) (b : Bool) (a : Option Addr) (n c : Nat) (w : World) (hn : n ≤ 1048576) (hl : ls.length = n) (hr : Rd Alt.enc 3 w a ls) (hb : b = true ↔ AOk ls) : Calls Tryd.prog 65 #[.slice a n c] w fun e w' => e = .returned (.bool b) ∧ Below w.heap.size w w' := by
  have HL := Lib.hid hl
  have HR := Lib.hid hr
  have HBB := Lib.hid hb
  clear hl hr hb
  go_enter Tryd.func65, Tryd.ntmps65
  go_wp2_with fail
  go_loopw [3] (fun i wr => ∃ k : Nat, k ≤ n ∧ i = .int .i64 k ∧ Hid (∀ i, i < k → ∀ x, ls[i]? = some x → OkS ls i x) ∧ Below w.heap.size w wr) (fun i _ => n - (intOf i).toNat)
  case atStart => exact ⟨0, Nat.zero_le _, rfl, Lib.hid fun i hi => absurd hi (by omega), Below.refl _ _⟩
  case round =>
    obtain ⟨k, hk, rfl, HK, hb⟩ := hrel
    by_cases hlt : k < n
    · obtain ⟨x, hx⟩ : ∃ z, ls[k]? = some z := ⟨_, List.getElem?_eq_getElem (by rw [HL.out]; exact hlt)⟩
      obtain ⟨b1, o1, hab1, hbl1, hc1⟩ := (HR.out.below hb) k x hx
      have c0 := hc1 0 _ rfl
      have c1 := hc1 1 _ rfl
      have c2 := hc1 2 _ rfl
      rw [Nat.add_zero] at c0
      subst hab1
      have HX := Lib.hid hx
      have HB0 := Lib.hid hb
      clear hc1 hx hb
      cases h1 : inB x.beg 0 10000000 with
      | false =>
        have HBF := Lib.hid (badS HBB.out HX.out (fun H => by have := H.1; rw [inB_iff.2 this] at h1; cases h1))
        have H1 := Lib.hid h1
        clear h1
        go_wp2_with fail
        go_quiet ((first | (go_at_call 87; exact quiet_sameT (l03Time_lit _ false _ H1.out))))
        have HB5 : Hid (Below w.heap.size w (wr.drewN nq)) := Lib.hid (below_drewN HB0.out nq)
        have HRC : Hid (Rd Alt.enc 3 (wr.drewN nq) (some ⟨b1, o1, none⟩) ls) := Lib.hid (HR.out.below HB5.out)
        obtain ⟨w5, hw5⟩ : ∃ wq, wr.drewN nq = wq := ⟨_, rfl⟩
        rw [hw5] at HB5 HRC ⊢
        clear hw5 c0 c1 c2
        go_wp2_with fail
        go_ret
        exact ⟨by rw [HBF.out]; rfl, HB5.out⟩
      | true =>
        have H1 := Lib.hid h1
        clear h1
        cases h2 : inB x.peak (-2000) 20000 with
        | false =>
          have HBF := Lib.hid (badS HBB.out HX.out (fun H => by have := H.2.1; rw [inB_iff.2 this] at h2; cases h2))
          have H2 := Lib.hid h2
          clear h2
          go_wp2_with fail
          go_quiet ((first | (go_at_call 87; exact quiet_sameT (l03Time_lit _ true _ H1.out)) | (go_at_call 80; exact quiet_sameT (l02Mag_lit _ false _ H2.out))))
          have HB5 : Hid (Below w.heap.size w (wr.drewN nq)) := Lib.hid (below_drewN HB0.out nq)
          have HRC : Hid (Rd Alt.enc 3 (wr.drewN nq) (some ⟨b1, o1, none⟩) ls) := Lib.hid (HR.out.below HB5.out)
          obtain ⟨w5, hw5⟩ : ∃ wq, wr.drewN nq = wq := ⟨_, rfl⟩
          rw [hw5] at HB5 HRC ⊢
          clear hw5 c0 c1 c2
          go_wp2_with fail
          go_ret
          exact ⟨by rw [HBF.out]; rfl, HB5.out⟩
        | true =>
          have H2 := Lib.hid h2
          clear h2
          have b1' := inB_iff.1 H1.out
          have b2' := inB_iff.1 H2.out
          have i1 : IntKind.i64.wrap (x.beg + 1) = x.beg + 1 := IntWalk.i64_in _ (by omega)
          by_cases hk0 : k = 0
          · subst hk0
            have d1 : decide ((0 : Int) < ((0 : Nat) : Int)) = false := by simp
            simp only [Nat.zero_mul, Nat.add_zero] at c0 c1 c2
            go_wp2_with fail
            go_quiet ((first | (go_at_call 87; exact quiet_sameT (l03Time_lit _ true _ H1.out)) | (go_at_call 80; exact quiet_sameT (l02Mag_lit _ true _ H2.out))))
            have HB5 : Hid (Below w.heap.size w (wr.drewN nq)) := Lib.hid (below_drewN HB0.out nq)
            have HRC : Hid (Rd Alt.enc 3 (wr.drewN nq) (some ⟨b1, o1, none⟩) ls) := Lib.hid (HR.out.below HB5.out)
            obtain ⟨w5, hw5⟩ : ∃ wq, wr.drewN nq = wq := ⟨_, rfl⟩
            rw [hw5] at HB5 HRC ⊢
            clear hw5 c0 c1 c2
            clear d1
            obtain ⟨b4, o4, hab4, _, hc4⟩ := HRC.out 0 x HX.out
            simp only [Option.some.injEq, Addr.mk.injEq, and_true] at hab4
            obtain ⟨rfl, rfl⟩ := hab4
            have c0 := hc4 0 _ rfl
            have c1 := hc4 1 _ rfl
            rw [Nat.add_zero] at c0
            clear hc4
            simp only [Nat.zero_mul, Nat.add_zero] at c0 c1
            by_cases hfm : x.fin = -1
            · have d6 : (x.fin != -1) = false := by simp [hfm]
              have HNX := Lib.hid (stepAll HK.out HX.out ⟨b1', b2', fun y h => absurd h (by omega), .inl hfm⟩)
              clear hfm
              go_wp2_with fail
              go_quiet (fail)
              have HB6 : Hid (Below w.heap.size w (w5.drewN nq)) := Lib.hid (below_drewN HB5.out nq)
              clear c0 c1 d6
              go_wp2_with fail
              go_roundw
              case rel => exact ⟨0 + 1, by omega, by go_num, HNX, HB6.out⟩
              case measure => simp [intOf]; omega
            · have d6 : (x.fin != -1) = true := by simpa using hfm
              cases hE : inB x.fin (x.beg + 1) 10000000 with
              | true =>
                have HE := Lib.hid hE
                have HNX := Lib.hid (stepAll HK.out HX.out ⟨b1', b2', fun y h => absurd h (by omega), .inr (ended_iff.2 hE)⟩)
                clear hfm hE
                go_wp2_with fail
                go_quiet ((first | (go_at_call 51; exact quiet_sameT (l00In_lit _ _ _ true _ HE.out))))
                have HB6 : Hid (Below w.heap.size w (w5.drewN nq)) := Lib.hid (below_drewN HB5.out nq)
                clear c0 c1 d6
                go_wp2_with fail
                go_roundw
                case rel => exact ⟨0 + 1, by omega, by go_num, HNX, HB6.out⟩
                case measure => simp [intOf]; omega
              | false =>
                have HE := Lib.hid hE
                have HBF := Lib.hid (badS HBB.out HX.out (fun H => by rcases H.2.2.2 with h | h; exact hfm h; rw [ended_iff.1 h] at hE; cases hE))
                clear hfm hE
                go_wp2_with fail
                go_quiet ((first | (go_at_call 51; exact quiet_sameT (l00In_lit _ _ _ false _ HE.out))))
                have HB6 : Hid (Below w.heap.size w (w5.drewN nq)) := Lib.hid (below_drewN HB5.out nq)
                clear c0 c1 d6
                go_wp2_with fail
                go_ret
                exact ⟨by rw [HBF.out]; rfl, HB6.out⟩
          · obtain ⟨y, hy⟩ : ∃ z, ls[k - 1]? = some z := ⟨_, List.getElem?_eq_getElem (by rw [HL.out]; omega)⟩
            obtain ⟨b3, o3, hab3, _, hc3⟩ := (HR.out.below HB0.out) (k - 1) y hy
            simp only [Option.some.injEq, Addr.mk.injEq, and_true] at hab3
            obtain ⟨rfl, rfl⟩ := hab3
            have y1 := hc3 1 _ rfl
            have HY := Lib.hid hy
            have hk1 : 1 ≤ k := by omega
            have d1 : decide (0 < k) = true := by simp; omega
            have d2 : (0 : Int) ≤ (k : Int) - 1 := by omega
            have d3 : (k : Int) - 1 < (n : Int) := by omega
            have d4 : ((k : Int) - 1).toNat = k - 1 := by omega
            have d5 : (k : Int) < (n : Int) := by omega
            have d6 : IntKind.i64.wrap ((k : Int) - 1) = (k : Int) - 1 := IntWalk.i64_in _ (by omega)
            clear hc3 hy
            by_cases hy0 : y.fin < 0
            · have HBF := Lib.hid (badS HBB.out HX.out (fun H => by have := H.2.2.1 y hk1 HY.out; omega))
              have r1 : decide (y.fin < 0) = true := by simpa using hy0
              clear hy0
              go_wp2_with fail
              go_quiet ((first | (go_at_call 87; exact quiet_sameT (l03Time_lit _ true _ H1.out)) | (go_at_call 80; exact quiet_sameT (l02Mag_lit _ true _ H2.out))))
              have HB5 : Hid (Below w.heap.size w (wr.drewN nq)) := Lib.hid (below_drewN HB0.out nq)
              have HRC : Hid (Rd Alt.enc 3 (wr.drewN nq) (some ⟨b1, o1, none⟩) ls) := Lib.hid (HR.out.below HB5.out)
              obtain ⟨w5, hw5⟩ : ∃ wq, wr.drewN nq = wq := ⟨_, rfl⟩
              rw [hw5] at HB5 HRC ⊢
              clear hw5 c0 c1 c2
              clear y1 d1 d2 d3 d4 d5 d6 r1
              go_wp2_with fail
              go_ret
              exact ⟨by rw [HBF.out]; rfl, HB5.out⟩
            · have r1 : decide (y.fin < 0) = false := by simpa using hy0
              by_cases hyx : x.beg ≤ y.fin
              · have HBF := Lib.hid (badS HBB.out HX.out (fun H => by have := H.2.2.1 y hk1 HY.out; omega))
                have r2 : decide (x.beg ≤ y.fin) = true := by simpa using hyx
                clear hy0 hyx
                go_wp2_with fail
                go_quiet ((first | (go_at_call 87; exact quiet_sameT (l03Time_lit _ true _ H1.out)) | (go_at_call 80; exact quiet_sameT (l02Mag_lit _ true _ H2.out))))
                have HB5 : Hid (Below w.heap.size w (wr.drewN nq)) := Lib.hid (below_drewN HB0.out nq)
                have HRC : Hid (Rd Alt.enc 3 (wr.drewN nq) (some ⟨b1, o1, none⟩) ls) := Lib.hid (HR.out.below HB5.out)
                obtain ⟨w5, hw5⟩ : ∃ wq, wr.drewN nq = wq := ⟨_, rfl⟩
                rw [hw5] at HB5 HRC ⊢
                clear hw5 c0 c1 c2
                clear y1 d1 d2 d3 d4 d5 d6 r1 r2
                go_wp2_with fail
                go_ret
                exact ⟨by rw [HBF.out]; rfl, HB5.out⟩
              · have r2 : decide (x.beg ≤ y.fin) = false := by simpa using hyx
                have HYO : Hid (∀ z, 1 ≤ k → ls[k - 1]? = some z → 0 ≤ z.fin ∧ z.fin < x.beg) := Lib.hid fun z _ hz => by rw [HY.out] at hz; cases hz; omega
                clear hy0 hyx
                go_wp2_with fail
                go_quiet ((first | (go_at_call 87; exact quiet_sameT (l03Time_lit _ true _ H1.out)) | (go_at_call 80; exact quiet_sameT (l02Mag_lit _ true _ H2.out))))
                have HB5 : Hid (Below w.heap.size w (wr.drewN nq)) := Lib.hid (below_drewN HB0.out nq)
                have HRC : Hid (Rd Alt.enc 3 (wr.drewN nq) (some ⟨b1, o1, none⟩) ls) := Lib.hid (HR.out.below HB5.out)
                obtain ⟨w5, hw5⟩ : ∃ wq, wr.drewN nq = wq := ⟨_, rfl⟩
                rw [hw5] at HB5 HRC ⊢
                clear hw5 c0 c1 c2
                clear y1 d1 d2 d3 d4 d5 d6 r1 r2
                obtain ⟨b4, o4, hab4, _, hc4⟩ := HRC.out k x HX.out
                simp only [Option.some.injEq, Addr.mk.injEq, and_true] at hab4
                obtain ⟨rfl, rfl⟩ := hab4
                have c0 := hc4 0 _ rfl
                have c1 := hc4 1 _ rfl
                rw [Nat.add_zero] at c0
                clear hc4
                
                by_cases hfm : x.fin = -1
                · have d6 : (x.fin != -1) = false := by simp [hfm]
                  have HNX := Lib.hid (stepAll HK.out HX.out ⟨b1', b2', HYO.out, .inl hfm⟩)
                  clear hfm
                  go_wp2_with fail
                  go_quiet (fail)
                  have HB6 : Hid (Below w.heap.size w (w5.drewN nq)) := Lib.hid (below_drewN HB5.out nq)
                  clear c0 c1 d6
                  go_wp2_with fail
                  go_roundw
                  case rel => exact ⟨k + 1, by omega, by go_num, HNX, HB6.out⟩
                  case measure => simp [intOf]; omega
                · have d6 : (x.fin != -1) = true := by simpa using hfm
                  cases hE : inB x.fin (x.beg + 1) 10000000 with
                  | true =>
                    have HE := Lib.hid hE
                    have HNX := Lib.hid (stepAll HK.out HX.out ⟨b1', b2', HYO.out, .inr (ended_iff.2 hE)⟩)
                    clear hfm hE
                    go_wp2_with fail
                    go_quiet ((first | (go_at_call 51; exact quiet_sameT (l00In_lit _ _ _ true _ HE.out))))
                    have HB6 : Hid (Below w.heap.size w (w5.drewN nq)) := Lib.hid (below_drewN HB5.out nq)
                    clear c0 c1 d6
                    go_wp2_with fail
                    go_roundw
                    case rel => exact ⟨k + 1, by omega, by go_num, HNX, HB6.out⟩
                    case measure => simp [intOf]; omega
                  | false =>
                    have HE := Lib.hid hE
                    have HBF := Lib.hid (badS HBB.out HX.out (fun H => by rcases H.2.2.2 with h | h; exact hfm h; rw [ended_iff.1 h] at hE; cases hE))
                    clear hfm hE
                    go_wp2_with fail
                    go_quiet ((first | (go_at_call 51; exact quiet_sameT (l00In_lit _ _ _ false _ HE.out))))
                    have HB6 : Hid (Below w.heap.size w (w5.drewN nq)) := Lib.hid (below_drewN HB5.out nq)
                    clear c0 c1 d6
                    go_wp2_with fail
                    go_ret
                    exact ⟨by rw [HBF.out]; rfl, HB6.out⟩
    · obtain rfl : k = n := by omega
      by_cases h50 : k ≤ 50
      · have HBT := Lib.hid (HBB.out.2 ⟨by rw [HL.out]; exact h50, fun i x hx => HK.out i (by have := (List.getElem?_eq_some_iff.1 hx).1; rw [HL.out] at this; exact this) x hx⟩)
        have d5 : decide ((k : Int) ≤ 50) = true := by simp; omega
        go_wp2_with fail
        go_ret
        exact ⟨by rw [HBT.out]; rfl, hb⟩
      · have HBF := Lib.hid (nb HBB.out fun H => absurd H.1 (by rw [HL.out]; exact h50))
        have d5 : decide ((k : Int) ≤ 50) = false := by simp; omega
        go_wp2_with fail
        go_ret
        exact ⟨by rw [HBF.out]; rfl, hb⟩
open Go.RowKit
set_option maxRecDepth 100000
theorem Ow.setf {α : Type} {enc : α → List Value} {k : Nat} (hk : ∀ x, (enc x).length = k) {w : World} {base e g n cap : Nat} {xs : List α} (h : Ow enc k w base e (.slice (some ⟨g, 0, none⟩) n cap) n xs) (i j : Nat) (x x' : α) (u : Value) (hx : xs[i]? = some x) (hj : j < k) (he : (enc x).set j u = enc x') : Ow enc k (w.setCell ⟨g, i * k + j, none⟩ u) base e (.slice (some ⟨g, 0, none⟩) n cap) n (xs.set i x') := by
  have hfl := flat_setf hk xs i x x' j u hx hj he
  have hln := flat_len hk xs
  have hp := idx_lt (k := k) (List.getElem?_eq_some_iff.1 hx).1 hj
  have hset : (xs.flatMap enc).set (i * k + j) u = (xs.set i x').flatMap enc := by
    rw [← hfl, List.set_eq_take_append_cons_drop, if_pos (by omega)]
    simp
  refine ⟨by rw [← hset, List.length_set]; exact h.1, ?_⟩
  rcases h.2 with ⟨h1, _⟩ | ⟨g', cap', cur, h1, hb, hg, h2, h3, h4, h5⟩
  · simp at h1
  · simp only [Value.slice.injEq, Option.some.injEq, Addr.mk.injEq, and_true, true_and] at h1
    obtain ⟨rfl, rfl⟩ := h1
    refine .inr ⟨g, cap, cur.setIfInBounds (i * k + j) u, rfl, hb, ?_, h2, h3, by simpa using h4, ?_⟩
    · simp [World.setCell, Array.getElem?_modify, hg]
    · rw [← hset, ← h5]
      simp only [Array.toList_setIfInBounds]
      apply List.ext_getElem?
      intro q
      simp only [List.getElem?_take, List.getElem?_set, List.length_take]
      have hlc : n * k ≤ cur.toList.length := by
        have := congrArg List.length h5
        have h6 := h.1
        simp only [List.length_take] at this
        omega
      by_cases hq : q < n * k
      · simp only [hq, if_true]
        by_cases hqe : i * k + j = q
        · simp only [hqe, if_true]
          rw [if_pos (by omega), if_pos (by omega)]
        · simp only [hqe, if_false]
      · simp only [hq, if_false]
        split
        · rename_i h7
          rw [if_neg (by omega)]
        · rfl
theorem jnN_bd {d : Int} {ls : List Alt} (h : ∀ (i : Nat) (a : Alt), ls[i]? = some a → -1 ≤ a.fin ∧ a.fin ≤ 10000000) : ∀ k, k ≤ ls.length → ∀ z ∈ jnN d ls k, -1 ≤ z.fin ∧ z.fin ≤ 10000000
  | 0, _ => by simp [jnN]
  | k + 1, hk => by
    obtain ⟨a, ha⟩ : ∃ z, ls[k]? = some z := ⟨_, List.getElem?_eq_getElem (by omega)⟩
    have ih := jnN_bd (d := d) h k (by omega)
    have hka := h k a ha
    rcases list_snoc (jnN d ls k) with hl | ⟨xs, z, hl⟩
    · rw [jnN_none ha hl]
      intro y hy
      rw [List.mem_singleton] at hy; subst hy; exact hka
    · by_cases hd : a.beg - z.fin ≤ d
      · rw [jnN_join ha hl hd]
        rw [hl] at ih
        intro y hy
        rw [List.mem_append, List.mem_singleton] at hy
        rcases hy with hy | rfl
        · exact ih y (by simp [hy])
        · exact hka
      · rw [jnN_new ha hl hd]
        rw [hl] at ih
        intro y hy
        rw [List.mem_append, List.mem_singleton] at hy
        rcases hy with hy | rfl
        · exact ih y hy
        · exact hka
theorem AOk.bd {ls : List Alt} (h : AOk ls) (i : Nat) (a : Alt) (ha : ls[i]? = some a) : (0 ≤ a.beg ∧ a.beg ≤ 10000000) ∧ -1 ≤ a.fin ∧ a.fin ≤ 10000000 := by
  obtain ⟨h1, _, _, h2⟩ := h.2 i a ha
  refine ⟨h1, ?_⟩
  unfold Ended at h2
  omega
theorem Ow.cellG3 {w : World} {base e g n cap i : Nat} {xs : List Alt} {x : Alt} (h : Ow Alt.enc 3 w base e (.slice (some ⟨g, 0, none⟩) n cap) n xs) (hi : i < n) (hx : xs[i]? = some x) (j : Nat) (hj : j < 3 := by decide) : w.cell? ⟨g, i * 3 + j, none⟩ = (Alt.enc x)[j]? := by
  rw [World.ownsRow.cellAt h (i * 3 + j) (idx_lt hi hj)]
  exact flat_get Alt.len xs i x j hx hj
theorem Ow.freeG {w : World} {base e g n cap : Nat} {xs : List Alt} (h : Ow Alt.enc 3 w base e (.slice (some ⟨g, 0, none⟩) n cap) n xs) (j : Nat) : w.frozen? ⟨g, j, none⟩ = false := World.ownsRow.frozenAt h j
open Go.RowKit
set_option maxRecDepth 100000
def ResL {α : Type} (enc : α → List Value) (k : Nat) (w : World) (E : Int) (L : List α) (e : Ending) (w' : World) : Prop := ∃ (a' : Option Addr) (n' c' : Nat), e = .returned (.tuple #[.slice a' n' c', .int .i64 E]) ∧ L.length = n' ∧ Rd enc k w' a' L ∧ Below w.heap.size w w'
theorem ResL.bad {α : Type} {enc : α → List Value} {k : Nat} {P : Program} {f : FuncId} {args : Array Value} {w : World} {E : Int} (h : Calls P f args w fun e w' => e = .returned (.tuple #[.slice none 0 0, .int .i64 E]) ∧ Below w.heap.size w w') : Calls P f args w (ResL enc k w E []) :=
  h.mono fun _ _ ⟨h1, h2⟩ => ⟨none, 0, 0, h1, rfl, Rd.nil _ _ _ _, h2⟩
theorem ResL.ok {P : Program} {f : FuncId} {args : Array Value} {w : World} {L : List Alt} (h : Calls P f args w (AlT w L)) : Calls P f args w (ResL Alt.enc 3 w 0 L) :=
  h.mono fun _ _ ⟨a', k, c', h1, h2, h3⟩ => ⟨a', k, c', h1, h2.len Alt.len (by decide), h2.rd Alt.len (by decide), h3⟩
theorem ResL.okB {P : Program} {f : FuncId} {args : Array Value} {w : World} {n : Nat} {L : List Bool} (h : Calls P f args w (StT w n L)) : Calls P f args w (ResL eBo 1 w 0 L) :=
  h.mono fun _ _ ⟨a', c', h1, h2, h3⟩ => ⟨a', n, c', h1, h2.len eBo_len (by decide), h2.rd eBo_len (by decide), h3⟩
def ouL (ps : List Pt) (x y : Int) (n : Nat) : List Alt := if thCode ps x y = 0 then alN min (oS ps x y) ps n else []
def faL (ps : List Pt) (x y : Int) (n : Nat) : List Alt := if thCode ps x y = 0 then alN max (fS ps x y) ps n else []
def soL (ps : List Pt) (x y : Int) (n : Nat) : List Bool := if thCode ps x y = 0 then stN (oS ps x y) n else []
theorem th_good {ps : List Pt} {x y : Int} (h : thCode ps x y = 0) : Pt.allOk ps = true ∧ thB x y = true := by
  unfold thCode at h
  split at h
  · assumption
  · cases h
def jnE (d : Int) (b : Bool) : Int := if b = true then (if inB d 0 10000000 = true then 0 else 2) else 1
def jnL (d : Int) (b : Bool) (ls : List Alt) : List Alt := if jnE d b = 0 then jnN d ls ls.length else []
theorem uOI (ps : List Pt) (a : Option Addr) (n c : Nat) (x y : Int) (w : World) (hn : n ≤ 200) (hl : ps.length = n) (hr : Rd Pt.enc 2 w a ps) : Calls Tryd.prog 35 #[.slice a n c, .agg #[.int .i64 x, .int .i64 y]] w (ResL Alt.enc 3 w (thCode ps x y) (ouL ps x y n)) := by
  by_cases h : thCode ps x y = 0
  · obtain ⟨hv, ht⟩ := th_good h
    rw [h]; unfold ouL; rw [if_pos h]
    exact ResL.ok (implOu_ok ps a n c x y w hn hl hr hv ht)
  · rw [thCode_bad h]; unfold ouL; rw [if_neg h]
    exact ResL.bad (implOu_bad ps a n c x y w hn hl hr h)
theorem jnE_zero {d : Int} {b : Bool} (h : jnE d b = 0) : b = true ∧ 0 ≤ d ∧ d ≤ 10000000 := by
  unfold jnE at h
  split at h
  · rename_i h1
    split at h
    · rename_i h2
      exact ⟨h1, inB_iff.1 h2⟩
    · cases h
  · cases h
theorem jnN_beg {d : Int} {ls : List Alt} (h : ∀ (i : Nat) (a : Alt), ls[i]? = some a → 0 ≤ a.beg ∧ a.beg ≤ 10000000) : ∀ k, k ≤ ls.length → ∀ z ∈ jnN d ls k, 0 ≤ z.beg ∧ z.beg ≤ 10000000
  | 0, _ => by simp [jnN]
  | k + 1, hk => by
    obtain ⟨a, ha⟩ : ∃ z, ls[k]? = some z := ⟨_, List.getElem?_eq_getElem (by omega)⟩
    have ih := jnN_beg (d := d) h k (by omega)
    have hka := h k a ha
    rcases list_snoc (jnN d ls k) with hl | ⟨xs, z, hl⟩
    · rw [jnN_none ha hl]
      intro y hy
      rw [List.mem_singleton] at hy; subst hy; exact hka
    · rw [hl] at ih
      by_cases hd : a.beg - z.fin ≤ d
      · rw [jnN_join ha hl hd]
        intro y hy
        rw [List.mem_append, List.mem_singleton] at hy
        rcases hy with hy | rfl
        · exact ih y (by simp [hy])
        · exact ih z (by simp)
      · rw [jnN_new ha hl hd]
        intro y hy
        rw [List.mem_append, List.mem_singleton] at hy
        rcases hy with hy | rfl
        · exact ih y hy
        · exact hka
theorem soL_at {ps : List Pt} {x y : Int} {n k : Nat} {v : Bool} (h : (soL ps x y n)[k]? = some v) : v = oS ps x y (k + 1) := by
  unfold soL at h
  split at h
  · have h2 := (List.getElem?_eq_some_iff.1 h).1
    rw [stN_len] at h2
    rw [stN_get _ _ _ h2] at h
    cases h; rfl
  · simp at h
theorem ou_beg {ps : List Pt} {x y : Int} {n : Nat} (hl : ps.length = n) (h : thCode ps x y = 0) : begN (oS ps x y) (soL ps x y n).length = (ouL ps x y n).length := by
  unfold soL ouL
  rw [if_pos h, if_pos h, stN_len, alN_beg rfl n (by omega)]
theorem ou_in {ps : List Pt} {x y : Int} {n : Nat} (hl : ps.length = n) (h : thCode ps x y = 0) : (∀ z ∈ ouL ps x y n, z.peak ≤ x) ∧ (ouL ps x y n).Pairwise fun a b => a.fin < b.beg := by
  have hg := th_good h
  have h1 := alN_in (s := oS ps x y) (M := x) (CuOk.of hg.1) rfl (fun k p hp h1 h0 => by
    rw [oS_succ hp, h0] at h1
    simpa [bO] using h1) n (by omega)
  unfold ouL
  rw [if_pos h]
  exact ⟨fun z hz => (h1.1 z hz).1, h1.2⟩
theorem pw_next {L : List Alt} (h : L.Pairwise fun a b => a.fin < b.beg) {i : Nat} {p q : Alt} (hp : L[i]? = some p) (hq : L[i + 1]? = some q) : p.fin < q.beg := by
  rw [List.pairwise_iff_getElem] at h
  obtain ⟨h1, rfl⟩ := List.getElem?_eq_some_iff.1 hp
  obtain ⟨h2, rfl⟩ := List.getElem?_eq_some_iff.1 hq
  exact h i (i + 1) h1 h2 (by omega)
theorem begN_le (s : Nat → Bool) : ∀ k, begN s k ≤ k
  | 0 => Nat.le_refl _
  | k + 1 => by
    have := begN_le s k
    unfold begN
    split <;> omega
theorem begN_up {s : Nat → Bool} {k : Nat} (h1 : s (k + 1) = true) (h0 : s k = false) : begN s (k + 1) = begN s k + 1 := by simp [begN, h1, h0]
theorem begN_same {s : Nat → Bool} {k : Nat} (h : s (k + 1) = false ∨ s k = true) : begN s (k + 1) = begN s k := by
  rcases h with h | h <;> simp [begN, h]
theorem minP_take {L : List Alt} {k : Nat} {x : Alt} (h : L[k]? = some x) : (if x.peak < minP (L.take k) then x.peak else minP (L.take k)) = minP (L.take (k + 1)) := by
  rw [List.take_add_one, h]
  show _ = minP (L.take k ++ [x])
  rw [minP_snoc]
  split <;> omega
theorem guardAl (op : BinOp) (o o' : Operand) (xs ys : Array Value) (wx : World) : (eqGuard op 60 o o' (.agg xs) (.agg ys)).run Tryd.prog wx = .ok () wx := run_eqGuard_agg wx op _ o o' xs ys (by kernel_rfl)
theorem neqAl (x : Alt) (wx : World) : (binOp .neq 60 (.agg #[.int .i64 x.beg, .int .i64 x.fin, .int .i64 x.peak]) (.agg #[.int .i64 x.beg, .int .i64 x.fin, .int .i64 x.peak])).run Tryd.prog wx = .ok (.bool false) wx := by
  rw [run_neq_struct, run_equalIn_agg _ _ _ _ _ (by kernel_rfl) (by kernel_rfl)]
  rw [Program.fieldsOf, Tryd.underlying60]
  have e1 := fun w a b => run_equalIn_int (P := Tryd.prog) w 9998 2 .i64 .i64 a b Tryd.underlying2
  have p0 : ∀ (a b c : Int) (w : World), (part 2 #[.int .i64 a, .int .i64 b, .int .i64 c] 0).run Tryd.prog w = .ok (.int .i64 a) w := by intros; kernel_rfl
  have p1 : ∀ (a b c : Int) (w : World), (part 2 #[.int .i64 a, .int .i64 b, .int .i64 c] 1).run Tryd.prog w = .ok (.int .i64 b) w := by intros; kernel_rfl
  have p2 : ∀ (a b c : Int) (w : World), (part 2 #[.int .i64 a, .int .i64 b, .int .i64 c] 2).run Tryd.prog w = .ok (.int .i64 c) w := by intros; kernel_rfl
  simp only [Op.eqFields, p0, p1, p2, e1, Sem.run_bind, Sem.run_ite, Sem.run_pure, Result.andThen_ok, ne_eq, String.reduceEq, not_false_eq_true, if_true, beq_self_eq_true]
  rfl
end Go.Proofs.YtjmojfbebcgjeaaDoor
