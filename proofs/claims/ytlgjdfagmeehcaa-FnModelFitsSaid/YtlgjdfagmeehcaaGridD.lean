/-
  A grid that is drawn.
-/
import Derived.Test.YtlgjdfagmeehcaaAppL
import Derived.Test.YtlgjdfagmeehcaaMfP
import Derived.Test.YtlgjdfagmeehcaaWh2
namespace Go.Proofs.Ytlgjdfagmeehcaa
open Go.RowKit
set_option maxRecDepth 100000
structure GridAt (w0 w : World) (b : Nat) (a : Option Addr) (n c p : Nat) (z : Int) (X g gd nd cd gh nh ch gf nf cf : Nat) (Ds Hs Fs : List Int) : Prop where
  src : SrcAt w0 w b a n c p z
  grid : CAt w g #[.slice (some ⟨gd, 0, none⟩) nd cd, .slice (some ⟨gh, 0, none⟩) nh ch, .slice (some ⟨gf, 0, none⟩) nf cf] 42
  D : Ow eI 1 w X 2 (.slice (some ⟨gd, 0, none⟩) nd cd) nd Ds
  H : Ow eI 1 w X 2 (.slice (some ⟨gh, 0, none⟩) nh ch) nh Hs
  F : Ow eI 1 w X 2 (.slice (some ⟨gf, 0, none⟩) nf cf) nf Fs
  bX : b < X
  hX : X ≤ g
  n1 : gd ≠ gh
  n2 : gd ≠ gf
  n3 : gh ≠ gf
  n4 : gd ≠ g
  n5 : gh ≠ g
  n6 : gf ≠ g
section
variable {w0 w w' : World} {b : Nat} {a : Option Addr} {n c p p' : Nat} {z z' : Int} {X g gd nd cd gh nh ch gf nf cf : Nat} {Ds Hs Fs : List Int}
theorem GridAt.pick (h : GridAt w0 w b a n c p z X g gd nd cd gh nh ch gf nf cf Ds Hs Fs) (hs : SrcAt w0 w' b a n c p' z') (hu : But b w w') : GridAt w0 w' b a n c p' z' X g gd nd cd gh nh ch gf nf cf Ds Hs Fs :=
  ⟨hs, h.grid.but hu (by have := h.bX; have := h.hX; omega), h.D.draw h.src hs hu h.bX, h.H.draw h.src hs hu h.bX, h.F.draw h.src hs hu h.bX, h.bX, h.hX, h.n1, h.n2, h.n3, h.n4, h.n5, h.n6⟩
theorem GridAt.drew (h : GridAt w0 w b a n c p z X g gd nd cd gh nh ch gf nf cf Ds Hs Fs) : GridAt w0 w.drew b a n c p z X g gd nd cd gh nh ch gf nf cf Ds Hs Fs :=
  ⟨h.src.drew, h.grid, h.D.same fun _ _ => rfl, h.H.same fun _ _ => rfl, h.F.same fun _ _ => rfl, h.bX, h.hX, h.n1, h.n2, h.n3, h.n4, h.n5, h.n6⟩
theorem own_lt {w : World} {base e m g cap : Nat} {xs : List Int} (h : Ow eI 1 w base e (.slice (some ⟨g, 0, none⟩) m cap) m xs) : base ≤ g ∧ g < w.heap.size := h.lt g rfl
/-- another block was written or made: gd' in gd's place, and the struct's cell -/
theorem GridAt.setD (h : GridAt w0 w b a n c p z X g gd nd cd gh nh ch gf nf cf Ds Hs Fs) {gd' nd' cd' : Nat} {ys : List Int} (ho : Ow eI 1 w' X 2 (.slice (some ⟨gd', 0, none⟩) nd' cd') nd' ys) (hb : Below X w w') (hl : gd = gd' ∨ w.heap.size ≤ gd') (hk : ∀ b, b < w.heap.size → gd ≠ b → w'.heap[b]? = w.heap[b]?) :
    GridAt w0 (w'.setCell ⟨g, 0, none⟩ (.slice (some ⟨gd', 0, none⟩) nd' cd')) b a n c p z X g gd' nd' cd' gh nh ch gf nf cf ys Hs Fs := by
  have hgl := h.grid.lt
  obtain ⟨_, hl1⟩ := own_lt h.D
  obtain ⟨_, hl2⟩ := own_lt h.H
  obtain ⟨_, hl3⟩ := own_lt h.F
  obtain ⟨n1, n2, n3, n4, n5, n6⟩ : gd' ≠ gh ∧ gd' ≠ gf ∧ gh ≠ gf ∧ gd' ≠ g ∧ gh ≠ g ∧ gf ≠ g := by
    have := h.n1; have := h.n2; have := h.n4
    exact ⟨by omega, by omega, h.n3, by omega, h.n5, h.n6⟩
  have hbX := h.bX
  have hXg := h.hX
  have hsrc : SrcAt w0 w' b a n c p z := h.src.belowN hb h.bX
  refine ⟨⟨hsrc.base, hsrc.ok.setCell (p := ⟨g, 0, none⟩) (by show w0.heap.size ≤ g; have := hsrc.base; omega) _, (Below.heap_setCell _ _ _ _ (by show b ≠ g; omega)).trans hsrc.blk, hsrc.z0, hsrc.z1⟩, ?_, ?_, ?_, ?_, h.bX, h.hX, n1, n2, n3, n4, n5, n6⟩
  · have h1 : CAt w' g _ _ := (hk g hgl h.n4).trans h.grid
    exact h1.set 0 _
  · exact ho.same fun q hq => Below.heap_setCell _ _ _ _ (by simp only [Value.ownBlock, Option.some.injEq] at hq; show q ≠ g; omega)
  · exact h.H.same fun q hq => (Below.heap_setCell _ _ _ _ (by simp only [Value.ownBlock, Option.some.injEq] at hq; show q ≠ g; omega)).trans (by simp only [Value.ownBlock, Option.some.injEq] at hq; exact hk q (by omega) (by have := h.n1; omega))
  · exact h.F.same fun q hq => (Below.heap_setCell _ _ _ _ (by simp only [Value.ownBlock, Option.some.injEq] at hq; show q ≠ g; omega)).trans (by simp only [Value.ownBlock, Option.some.injEq] at hq; exact hk q (by omega) (by have := h.n2; omega))
theorem GridAt.setF (h : GridAt w0 w b a n c p z X g gd nd cd gh nh ch gf nf cf Ds Hs Fs) {gf' nf' cf' : Nat} {ys : List Int} (ho : Ow eI 1 w' X 2 (.slice (some ⟨gf', 0, none⟩) nf' cf') nf' ys) (hb : Below X w w') (hl : gf = gf' ∨ w.heap.size ≤ gf') (hk : ∀ b, b < w.heap.size → gf ≠ b → w'.heap[b]? = w.heap[b]?) :
    GridAt w0 (w'.setCell ⟨g, 2, none⟩ (.slice (some ⟨gf', 0, none⟩) nf' cf')) b a n c p z X g gd nd cd gh nh ch gf' nf' cf' Ds Hs ys := by
  have hgl := h.grid.lt
  obtain ⟨_, hl1⟩ := own_lt h.D
  obtain ⟨_, hl2⟩ := own_lt h.H
  obtain ⟨_, hl3⟩ := own_lt h.F
  obtain ⟨n1, n2, n3, n4, n5, n6⟩ : gd ≠ gh ∧ gd ≠ gf' ∧ gh ≠ gf' ∧ gd ≠ g ∧ gh ≠ g ∧ gf' ≠ g := by
    have := h.n2; have := h.n3; have := h.n6
    exact ⟨h.n1, by omega, by omega, h.n4, h.n5, by omega⟩
  have hbX := h.bX
  have hXg := h.hX
  have hsrc : SrcAt w0 w' b a n c p z := h.src.belowN hb h.bX
  refine ⟨⟨hsrc.base, hsrc.ok.setCell (p := ⟨g, 2, none⟩) (by show w0.heap.size ≤ g; have := hsrc.base; omega) _, (Below.heap_setCell _ _ _ _ (by show b ≠ g; omega)).trans hsrc.blk, hsrc.z0, hsrc.z1⟩, ?_, ?_, ?_, ?_, h.bX, h.hX, n1, n2, n3, n4, n5, n6⟩
  · have h1 : CAt w' g _ _ := (hk g hgl h.n6).trans h.grid
    exact h1.set 2 _
  · exact h.D.same fun q hq => (Below.heap_setCell _ _ _ _ (by simp only [Value.ownBlock, Option.some.injEq] at hq; show q ≠ g; omega)).trans (by simp only [Value.ownBlock, Option.some.injEq] at hq; exact hk q (by omega) (by have := h.n2; omega))
  · exact h.H.same fun q hq => (Below.heap_setCell _ _ _ _ (by simp only [Value.ownBlock, Option.some.injEq] at hq; show q ≠ g; omega)).trans (by simp only [Value.ownBlock, Option.some.injEq] at hq; exact hk q (by omega) (by have := h.n3; omega))
  · exact ho.same fun q hq => Below.heap_setCell _ _ _ _ (by simp only [Value.ownBlock, Option.some.injEq] at hq; show q ≠ g; omega)
theorem GridAt.setH (h : GridAt w0 w b a n c p z X g gd nd cd gh nh ch gf nf cf Ds Hs Fs) {gh' nh' ch' : Nat} {ys : List Int} (ho : Ow eI 1 w' w.heap.size 2 (.slice (some ⟨gh', 0, none⟩) nh' ch') nh' ys) (hb : Below w.heap.size w w') :
    GridAt w0 (w'.setCell ⟨g, 1, none⟩ (.slice (some ⟨gh', 0, none⟩) nh' ch')) b a n c p z X g gd nd cd gh' nh' ch' gf nf cf Ds ys Fs := by
  have hgl := h.grid.lt
  obtain ⟨hx1, hl1⟩ := own_lt h.D
  obtain ⟨_, hl2⟩ := own_lt h.H
  obtain ⟨_, hl3⟩ := own_lt h.F
  obtain ⟨hl4, _⟩ := own_lt ho
  have hbX := h.bX
  have hXg := h.hX
  have hsrc : SrcAt w0 w' b a n c p z := h.src.belowN hb (by omega)
  refine ⟨⟨hsrc.base, hsrc.ok.setCell (p := ⟨g, 1, none⟩) (by show w0.heap.size ≤ g; have := hsrc.base; omega) _, (Below.heap_setCell _ _ _ _ (by show b ≠ g; omega)).trans hsrc.blk, hsrc.z0, hsrc.z1⟩, ?_, ?_, ?_, ?_, h.bX, h.hX, by omega, h.n2, by omega, h.n4, by omega, h.n6⟩
  · have h1 : CAt w' g _ _ := (hb.block g hgl).trans h.grid
    exact h1.set 1 _
  · have := h.n4
    exact h.D.same fun q hq => (Below.heap_setCell _ _ _ _ (by simp only [Value.ownBlock, Option.some.injEq] at hq; show q ≠ g; omega)).trans (by simp only [Value.ownBlock, Option.some.injEq] at hq; exact hb.block q (by omega))
  · exact (ho.mono (base' := X) (by omega)).same fun q hq => Below.heap_setCell _ _ _ _ (by simp only [Value.ownBlock, Option.some.injEq] at hq; show q ≠ g; omega)
  · have := h.n6
    exact h.F.same fun q hq => (Below.heap_setCell _ _ _ _ (by simp only [Value.ownBlock, Option.some.injEq] at hq; show q ≠ g; omega)).trans (by simp only [Value.ownBlock, Option.some.injEq] at hq; exact hb.block q (by omega))
end
theorem ow_one {w : World} {g X : Nat} {x : Int} (h : CAt w g #[.int .i64 x] 2) (hX : X ≤ g) : Ow eI 1 w X 2 (.slice (some ⟨g, 0, none⟩) 1 1) 1 [x] :=
  ⟨by simp [eI], .inr ⟨g, 1, _, rfl, hX, h, Nat.le_refl _, by simp [maxLen], by simp, by simp [eI]⟩⟩
def DrawnG (m : Mod) (w : World) (e : Ending) (w' : World) : Prop := ∃ (a1 a2 a3 : Option Addr) (n1 n2 n3 c1 c2 c3 : Nat) (Ds Hs Fs : List Int), e = .returned (.agg #[.slice a1 n1 c1, .slice a2 n2 c2, .slice a3 n3 c3]) ∧ GridOk m Ds Hs Fs ∧ (Ds.length = n1 ∧ Hs.length = n2 ∧ Fs.length = n3) ∧ (Rd eI 1 w' a1 Ds ∧ Rd eI 1 w' a2 Hs ∧ Rd eI 1 w' a3 Fs) ∧ Below w.heap.size w w'
set_option maxHeartbeats 4000000 in
theorem A2Grid_any (m : Mod) (hm : ModOk m) (a : Option Addr) (n c : Nat) (xs : List Int) (w : World) (hl : xs.length = n) (ho : ∀ x ∈ xs, Byt x) (hr : Rd eB 1 w a xs) : Calls Try.prog 16 #[.slice a n c, .agg #[.int .i64 m.depth, .int .i64 m.half, .int .i64 m.flat]] w (DrawnG m w) := by
  have HL := Lib.hid hl
  have HO := Lib.hid ho
  have HMO := Lib.hid hm
  obtain ⟨hx0, hx1, hxb, hxs⟩ := bx2 w #[.int .i64 m.depth, .int .i64 m.half, .int .i64 m.flat] #[.slice none 0 0, .slice none 0 0, .slice none 0 0] 25 42
  obtain ⟨wE, hwE⟩ : ∃ wE, (w.alloc (.cells #[.int .i64 m.depth, .int .i64 m.half, .int .i64 m.flat] 25)).alloc (.cells #[.slice none 0 0, .slice none 0 0, .slice none 0 0] 42) = wE := ⟨_, rfl⟩
  rw [hwE] at hx0 hx1 hxb hxs
  have HR := Lib.hid (hr.below hxb)
  have HX0 := Lib.hid hx0
  have HX1 := Lib.hid hx1
  have HXB := Lib.hid hxb
  have HXS := Lib.hid hxs
  have HWE := Lib.hid hwE
  clear hl ho hr hm hx0 hx1 hxb hxs hwE
  go_enter Try.func16, Try.ntmps16
  go_upto_region 1 with (fail)
  rw [HWE.out]
  clear HWE
  go_wp2_with fail
  refine (srcFrom a n c _).mono ?_
  rintro e w1 ⟨rfl, hs1, hlt1⟩
  have hE := HX0.out.below hs1.ok
  have c0 : w1.cell? ⟨w.heap.size, 0, none⟩ = some (.int .i64 m.depth) := hE.cell 0
  have c1 : w1.cell? ⟨w.heap.size, 1, none⟩ = some (.int .i64 m.half) := hE.cell 1
  have c2 : w1.cell? ⟨w.heap.size, 2, none⟩ = some (.int .i64 m.flat) := hE.cell 2
  have HS1 := Lib.hid hs1
  have hlw : w.heap.size < w1.heap.size := hE.lt
  clear hs1 hE
  go_upto_region 3 with (fail)
  obtain ⟨y0, y1, y2, y3, yb, ys⟩ := bx4 w1 #[.int .i64 m.depth] #[.int .i64 m.half] #[.int .i64 m.flat] #[.slice (some ⟨w1.heap.size, 0, none⟩) 1 1, .slice (some ⟨w1.heap.size + 1, 0, none⟩) 1 1, .slice (some ⟨w1.heap.size + 1 + 1, 0, none⟩) 1 1] 2 2 2 42
  obtain ⟨wG, hwG⟩ : ∃ wG, (((w1.alloc (.cells #[.int .i64 m.depth] 2)).alloc (.cells #[.int .i64 m.half] 2)).alloc (.cells #[.int .i64 m.flat] 2)).alloc (.cells #[.slice (some ⟨w1.heap.size, 0, none⟩) 1 1, .slice (some ⟨w1.heap.size + 1, 0, none⟩) 1 1, .slice (some ⟨w1.heap.size + 1 + 1, 0, none⟩) 1 1] 42) = wG := ⟨_, rfl⟩
  rw [hwG] at y0 y1 y2 y3 yb ys ⊢
  obtain ⟨bE, hbE⟩ : ∃ bE, wE.heap.size = bE := ⟨_, rfl⟩
  obtain ⟨B, hB⟩ : ∃ B, w1.heap.size = B := ⟨_, rfl⟩
  rw [hB] at y0 y1 y2 y3 yb ys hlt1 hlw
  rw [hbE] at hlt1
  have hG0 : GridAt wE wG bE a n c 0 0 B (B + 1 + 1 + 1) B 1 1 (B + 1) 1 1 (B + 1 + 1) 1 1 [m.depth] [m.half] [m.flat] :=
    ⟨by rw [← hbE]; exact HS1.out.belowN yb (by rw [hbE]; exact hlt1), y3, ow_one y0 (Nat.le_refl _), ow_one y1 (by omega), ow_one y2 (by omega), hlt1, by omega, by omega, by omega, by omega, by omega, by omega, by omega⟩
  have HG0 := Lib.hid hG0
  rw [hbE, hB]
  have HBE := Lib.hid hbE
  clear hwG hB hbE y0 y1 y2 y3 yb ys c0 c1 c2 hlw hG0 HS1
  have mo := HMO.out
  obtain ⟨mo0, mo1, mo2, mo3, mo4, mo5⟩ := mo
  go_wp2_with fail
  refine (srcPick 3 wE _ bE a n c 0 0 xs (by omega) (by omega) (by omega) HL.out HO.out HR.out HG0.out.src).mono ?_
  rintro e w2 ⟨v2, p2, z2, rfl, hv0, hv1, hp2, hs2, hu2⟩
  have HG2 := Lib.hid (HG0.out.pick hs2 hu2)
  clear hs2 hu2 HG0
  go_wp2_with fail
  go_loopw [7] (fun kk wr => ∃ (K : Int) (p : Nat) (z : Int) (gd nd cd : Nat) (Ds : List Int), kk = .int .i64 K ∧ 0 ≤ K ∧ K + (nd : Int) ≤ 3 ∧ p ≤ 10 + 2 * nd ∧ Hid (GridAt wE wr bE a n c p z B (B + 1 + 1 + 1) gd nd cd (B + 1) 1 1 (B + 1 + 1) 1 1 Ds [m.half] [m.flat]) ∧ Hid (m.depth ∈ Ds ∧ (∀ x ∈ Ds, 100 ≤ x ∧ x ≤ 2000))) (fun kk _ => (intOf kk).toNat)
  case atStart => exact ⟨_, _, _, B, 1, 1, [m.depth], rfl, by omega, by omega, by omega, HG2, Lib.hid ⟨by simp, fun x hx => by simp at hx; omega⟩⟩
  case round =>
    obtain ⟨K, p, z, gd, nd, cd, Ds, rfl, hK0, hK1, hp, HG, HGD⟩ := hrel
    have hX := HG.out.hX
    have hn1 := (HG.out.D).len eI_len (by decide)
    have hbl := own_lt HG.out.D
    have q0 : wr.cell? ⟨B + 1 + 1 + 1, 0, none⟩ = some (.slice (some ⟨gd, 0, none⟩) nd cd) := HG.out.grid.cell 0
    have HN1 := Lib.hid hn1
    clear hn1
    by_cases hlt : 0 < K
    · have HGd := Lib.hid HG.out.drew
      go_wp2_with fail
      go_region_law (first
        | (go_simp; go_at_call 73; refine (srcPick 8 wE _ bE a n c p z xs (by omega) (by omega) (by omega) HL.out HO.out HR.out HGd.out.src).mono ?_; rintro e w3 ⟨v3, p3, z3, rfl, hv2, hv3, hp3, hs3, hu3⟩; have HG3 := Lib.hid (HGd.out.pick hs3 hu3); have hb3 : B ≤ w3.heap.size := Nat.le_trans hX (Nat.le_of_lt HG3.out.grid.lt); clear hs3 hu3; have r0 : w3.cell? ⟨B + 1 + 1 + 1, 0, none⟩ = some (.slice (some ⟨gd, 0, none⟩) nd cd) := HG3.out.grid.cell 0; have i0 : IntKind.i64.wrap (1 + v3) = 1 + v3 := IntWalk.i64_in _ (by omega); have i1 : IntKind.i64.wrap (200 * (1 + v3)) = 200 * (1 + v3) := IntWalk.i64_in _ (by omega); obtain ⟨ys3, hys3⟩ : ∃ ys, Ds ++ [200 * (1 + v3)] = ys := ⟨_, rfl⟩; have HYS3 := Lib.hid hys3; clear hys3; have hgl3 : B + 1 + 1 + 1 < w3.heap.size := HG3.out.grid.lt; have h63 : nd + 1 ≤ maxLen := (by unfold maxLen; omega); have hby : (nd + 1) * 8 ≤ 140737488355328 := (by omega))
        | (refine step_appL eI_len (by decide) _ rfl (.tmp 29) (.tmp 34) 32 rfl 2 _ 8 rfl Try.underlying32 infoI64w B (.slice (some ⟨gd, 0, none⟩) nd cd) nd _ rfl w3 _ _ rfl HG3.out.D (200 * (1 + v3)) rfl rfl (eI_one _) h63 hby hb3 ys3 HYS3 ?_; intro g4 c4 w4 ho4 hb4 hl4 hk4; have HGN := Lib.hid (HG3.out.setD ho4 hb4 (hl4.imp (fun h => by simpa [Value.ownBlock] using h) id) (fun b hb hne => hk4 b hb (by simp [Value.ownBlock]; exact hne))); have HC4 : Hid (CAt w4 (B + 1 + 1 + 1) _ _) := Lib.hid ((hk4 _ HG3.out.grid.lt (by simp only [Value.ownBlock]; intro h; exact HG3.out.n4 (by simpa using h))).trans HG3.out.grid); have s0 : w4.cell? ⟨B + 1 + 1 + 1, 0, none⟩ = some (.slice (some ⟨gd, 0, none⟩) nd cd) := HC4.out.cell 0; have s1 := HC4.out.free 0; clear ho4 hb4 hl4 hk4 r0))
      all_goals
        have HGE : Hid (m.depth ∈ ys3 ∧ (∀ x ∈ ys3, 100 ≤ x ∧ x ≤ 2000)) := Lib.hid (by rw [← HYS3.out]; exact ⟨by simp [HGD.out.1], fun x hx => by simp at hx; rcases hx with hx | hx <;> first | exact HGD.out.2 x hx | omega⟩)
        clear q0 s0 s1 i0 i1
        go_wp2_with fail
        go_roundw
        case rel => exact ⟨K - 1, p3, z3, g4, nd + 1, c4, ys3, rfl, by omega, by push_cast; omega, by omega, HGN, HGE⟩
        case measure => simp [intOf]; omega
    · obtain rfl : K = 0 := by omega
      clear q0
      have HK5 := HGD
      go_wp2_with fail
      refine (srcPick 3 wE _ bE a n c p z xs (by omega) (by omega) (by omega) HL.out HO.out HR.out HG.out.src).mono ?_
      rintro e w5 ⟨v5, p5, z5, rfl, hv50, hv51, hp5, hs5, hu5⟩
      have HG5 := Lib.hid (HG.out.pick hs5 hu5)
      clear hs5 hu5 HG
      go_wp2_with fail
      go_loopw [8] (fun kk wr => ∃ (K : Int) (p : Nat) (z : Int) (gh nh ch : Nat) (Hs : List Int), kk = .int .i64 K ∧ 0 ≤ K ∧ K + (nh : Int) ≤ 3 ∧ p ≤ 20 + 2 * nh ∧ Hid (GridAt wE wr bE a n c p z B (B + 1 + 1 + 1) gd nd cd gh nh ch (B + 1 + 1) 1 1 Ds Hs [m.flat]) ∧ Hid (m.half ∈ Hs ∧ (∀ x ∈ Hs, 50 ≤ x ∧ x ≤ 1000))) (fun kk _ => (intOf kk).toNat)
      case atStart => exact ⟨_, _, _, B + 1, 1, 1, [m.half], rfl, by omega, by omega, by omega, HG5, Lib.hid ⟨by simp, fun x hx => by simp at hx; omega⟩⟩
      case round =>
        obtain ⟨K, p, z, gh, nh, ch, Hs, rfl, hK0, hK1, hp, HG, HGD⟩ := hrel
        have hX := HG.out.hX
        have hn1 := (HG.out.H).len eI_len (by decide)
        have hbl := own_lt HG.out.H
        have q0 : wr.cell? ⟨B + 1 + 1 + 1, 1, none⟩ = some (.slice (some ⟨gh, 0, none⟩) nh ch) := HG.out.grid.cell 1
        have HN1 := Lib.hid hn1
        clear hn1
        by_cases hlt : 0 < K
        · have HGd := Lib.hid HG.out.drew
          go_wp2_with fail
          go_region_law (first
            | (go_simp; go_at_call 73; refine (srcPick 8 wE _ bE a n c p z xs (by omega) (by omega) (by omega) HL.out HO.out HR.out HGd.out.src).mono ?_; rintro e w3 ⟨v3, p3, z3, rfl, hv2, hv3, hp3, hs3, hu3⟩; have HG3 := Lib.hid (HGd.out.pick hs3 hu3); have hb3 : B ≤ w3.heap.size := Nat.le_trans hX (Nat.le_of_lt HG3.out.grid.lt); clear hs3 hu3; have r0 : w3.cell? ⟨B + 1 + 1 + 1, 1, none⟩ = some (.slice (some ⟨gh, 0, none⟩) nh ch) := HG3.out.grid.cell 1; have i0 : IntKind.i64.wrap (1 + v3) = 1 + v3 := IntWalk.i64_in _ (by omega); have i1 : IntKind.i64.wrap (100 * (1 + v3)) = 100 * (1 + v3) := IntWalk.i64_in _ (by omega); obtain ⟨ys3, hys3⟩ : ∃ ys, [100 * (1 + v3)] ++ Hs = ys := ⟨_, rfl⟩; have HYS3 := Lib.hid hys3; clear hys3; have hgl3 : B + 1 + 1 + 1 < w3.heap.size := HG3.out.grid.lt; have h63 : 1 + nh ≤ maxLen := (by unfold maxLen; omega); have hby : (1 + nh) * 8 ≤ 140737488355328 := (by omega))
            | (have hne3 : B + 1 + 1 + 1 < w3.heap.size := HG3.out.grid.lt; have t0 : (w3.alloc (.cells #[.int .i64 (100 * (1 + v3))] 2)).heap.size = w3.heap.size + 1 := (by simp); refine step_apps eI_len (by decide) eI_one _ rfl (.tmp 47) (.tmp 49) 32 rfl 2 _ 8 rfl Try.underlying32 infoI64w w3.heap.size _ 1 [100 * (1 + v3)] rfl (Ow.oneG eI_len w3 (100 * (1 + v3)) 2) Hs nh HN1.out (some ⟨gh, 0, none⟩) ch rfl ((HG3.out.H.rd eI_len (by decide)).below ((Below.refl w3.heap.size w3).alloc (Nat.le_refl _) (.cells #[.int .i64 (100 * (1 + v3))] 2))) h63 hby (by simp) ys3 HYS3 ?_; intro a4 c4 w4 ho4 hb4; obtain ⟨g4, rfl, _, _⟩ := ho4.at_ (by omega); have hb5 := ((Below.refl w3.heap.size w3).alloc (Nat.le_refl _) (.cells #[.int .i64 (100 * (1 + v3))] 2)).trans hb4; have HGN := Lib.hid (HG3.out.setH ho4 hb5); have HC4 := Lib.hid (HG3.out.grid.below hb5); have s0 : w4.cell? ⟨B + 1 + 1 + 1, 1, none⟩ = some (.slice (some ⟨gh, 0, none⟩) nh ch) := HC4.out.cell 1; have s1 := HC4.out.free 1; clear ho4 hb4 hb5 r0 t0))
          all_goals
            have HGE : Hid (m.half ∈ ys3 ∧ (∀ x ∈ ys3, 50 ≤ x ∧ x ≤ 1000)) := Lib.hid (by rw [← HYS3.out]; exact ⟨by simp [HGD.out.1], fun x hx => by simp at hx; rcases hx with hx | hx <;> first | exact HGD.out.2 x hx | omega⟩)
            clear q0 s0 s1 i0 i1
            go_wp2_with fail
            go_roundw
            case rel => exact ⟨K - 1, p3, z3, g4, 1 + nh, c4, ys3, rfl, by omega, by push_cast; omega, by omega, HGN, HGE⟩
            case measure => simp [intOf]; omega
        · obtain rfl : K = 0 := by omega
          clear q0
          have HK8 := HGD
          go_wp2_with fail
          refine (srcPick 3 wE _ bE a n c p z xs (by omega) (by omega) (by omega) HL.out HO.out HR.out HG.out.src).mono ?_
          rintro e w8 ⟨v8, p8, z8, rfl, hv80, hv81, hp8, hs8, hu8⟩
          have HG8 := Lib.hid (HG.out.pick hs8 hu8)
          clear hs8 hu8 HG
          go_wp2_with fail
          go_loopw [9] (fun kk wr => ∃ (K : Int) (p : Nat) (z : Int) (gf nf cf : Nat) (Fs : List Int), kk = .int .i64 K ∧ 0 ≤ K ∧ K + (nf : Int) ≤ 3 ∧ p ≤ 30 + 2 * nf ∧ Hid (GridAt wE wr bE a n c p z B (B + 1 + 1 + 1) gd nd cd gh nh ch gf nf cf Ds Hs Fs) ∧ Hid (m.flat ∈ Fs ∧ (∀ x ∈ Fs, 0 ≤ x ∧ x ≤ 1000))) (fun kk _ => (intOf kk).toNat)
          case atStart => exact ⟨_, _, _, B + 1 + 1, 1, 1, [m.flat], rfl, by omega, by omega, by omega, HG8, Lib.hid ⟨by simp, fun x hx => by simp at hx; omega⟩⟩
          case round =>
            obtain ⟨K, p, z, gf, nf, cf, Fs, rfl, hK0, hK1, hp, HG, HGD⟩ := hrel
            have hX := HG.out.hX
            have hn1 := (HG.out.F).len eI_len (by decide)
            have hbl := own_lt HG.out.F
            have q0 : wr.cell? ⟨B + 1 + 1 + 1, 2, none⟩ = some (.slice (some ⟨gf, 0, none⟩) nf cf) := HG.out.grid.cell 2
            have HN1 := Lib.hid hn1
            clear hn1
            by_cases hlt : 0 < K
            · have HGd := Lib.hid HG.out.drew
              go_wp2_with fail
              go_region_law (first
                | (go_simp; go_at_call 73; refine (srcPick 8 wE _ bE a n c p z xs (by omega) (by omega) (by omega) HL.out HO.out HR.out HGd.out.src).mono ?_; rintro e w3 ⟨v3, p3, z3, rfl, hv2, hv3, hp3, hs3, hu3⟩; have HG3 := Lib.hid (HGd.out.pick hs3 hu3); have hb3 : B ≤ w3.heap.size := Nat.le_trans hX (Nat.le_of_lt HG3.out.grid.lt); clear hs3 hu3; have r0 : w3.cell? ⟨B + 1 + 1 + 1, 2, none⟩ = some (.slice (some ⟨gf, 0, none⟩) nf cf) := HG3.out.grid.cell 2; have i0 : IntKind.i64.wrap (50 * v3) = 50 * v3 := IntWalk.i64_in _ (by omega); obtain ⟨ys3, hys3⟩ : ∃ ys, Fs ++ [50 * v3] = ys := ⟨_, rfl⟩; have HYS3 := Lib.hid hys3; clear hys3; have hgl3 : B + 1 + 1 + 1 < w3.heap.size := HG3.out.grid.lt; have h63 : nf + 1 ≤ maxLen := (by unfold maxLen; omega); have hby : (nf + 1) * 8 ≤ 140737488355328 := (by omega))
                | (refine step_appL eI_len (by decide) _ rfl (.tmp 59) (.tmp 63) 32 rfl 2 _ 8 rfl Try.underlying32 infoI64w B (.slice (some ⟨gf, 0, none⟩) nf cf) nf _ rfl w3 _ _ rfl HG3.out.F (50 * v3) rfl rfl (eI_one _) h63 hby hb3 ys3 HYS3 ?_; intro g4 c4 w4 ho4 hb4 hl4 hk4; have HGN := Lib.hid (HG3.out.setF ho4 hb4 (hl4.imp (fun h => by simpa [Value.ownBlock] using h) id) (fun b hb hne => hk4 b hb (by simp [Value.ownBlock]; exact hne))); have HC4 : Hid (CAt w4 (B + 1 + 1 + 1) _ _) := Lib.hid ((hk4 _ HG3.out.grid.lt (by simp only [Value.ownBlock]; intro h; exact HG3.out.n6 (by simpa using h))).trans HG3.out.grid); have s0 : w4.cell? ⟨B + 1 + 1 + 1, 2, none⟩ = some (.slice (some ⟨gf, 0, none⟩) nf cf) := HC4.out.cell 2; have s1 := HC4.out.free 2; clear ho4 hb4 hl4 hk4 r0))
              all_goals
                have HGE : Hid (m.flat ∈ ys3 ∧ (∀ x ∈ ys3, 0 ≤ x ∧ x ≤ 1000)) := Lib.hid (by rw [← HYS3.out]; exact ⟨by simp [HGD.out.1], fun x hx => by simp at hx; rcases hx with hx | hx <;> first | exact HGD.out.2 x hx | omega⟩)
                clear q0 s0 s1 i0
                go_wp2_with fail
                go_roundw
                case rel => exact ⟨K - 1, p3, z3, g4, nf + 1, c4, ys3, rfl, by omega, by push_cast; omega, by omega, HGN, HGE⟩
                case measure => simp [intOf]; omega
            · obtain rfl : K = 0 := by omega
              clear q0
              have HBX := Lib.hid (HX1.out.below HG.out.src.ok)
              have hbX1 : w.heap.size + 1 < wr.heap.size := HBX.out.lt
              have q0 : wr.cell? ⟨B + 1 + 1 + 1, 0, none⟩ = some (.slice (some ⟨gd, 0, none⟩) nd cd) := HG.out.grid.cell 0
              have q1 : wr.cell? ⟨B + 1 + 1 + 1, 1, none⟩ = some (.slice (some ⟨gh, 0, none⟩) nh ch) := HG.out.grid.cell 1
              have q2 : wr.cell? ⟨B + 1 + 1 + 1, 2, none⟩ = some (.slice (some ⟨gf, 0, none⟩) nf cf) := HG.out.grid.cell 2
              have u0 : wr.cell? ⟨w.heap.size + 1, 0, none⟩ = some (.slice none 0 0) := HBX.out.cell 0
              have u1 : wr.cell? ⟨w.heap.size + 1, 1, none⟩ = some (.slice none 0 0) := HBX.out.cell 1
              have u2 : wr.cell? ⟨w.heap.size + 1, 2, none⟩ = some (.slice none 0 0) := HBX.out.cell 2
              have f0 := HBX.out.free 0
              have f1 := HBX.out.free 1
              have f2 := HBX.out.free 2
              have HC3 := Lib.hid (((HBX.out.set 0 (.slice (some ⟨gd, 0, none⟩) nd cd)).set 1 (.slice (some ⟨gh, 0, none⟩) nh ch)).set 2 (.slice (some ⟨gf, 0, none⟩) nf cf))
              have hok := HG.out.src.ok
              have hwEs : wE.heap.size = w.heap.size + 2 := HXS.out
              have HBF : Hid (Below w.heap.size w (((wr.setCell ⟨w.heap.size + 1, 0, none⟩ (.slice (some ⟨gd, 0, none⟩) nd cd)).setCell ⟨w.heap.size + 1, 1, none⟩ (.slice (some ⟨gh, 0, none⟩) nh ch)).setCell ⟨w.heap.size + 1, 2, none⟩ (.slice (some ⟨gf, 0, none⟩) nf cf))) := Lib.hid ((((HXB.out.trans (hok.mono HXB.out.size)).setCell (p := ⟨w.heap.size + 1, 0, none⟩) (Nat.le_succ _) _).setCell (p := ⟨w.heap.size + 1, 1, none⟩) (Nat.le_succ _) _).setCell (p := ⟨w.heap.size + 1, 2, none⟩) (Nat.le_succ _) _)
              have hXw : w.heap.size + 1 < B := by have h1 := HBE.out; omega
              have hmv : ∀ q, B ≤ q → (((wr.setCell ⟨w.heap.size + 1, 0, none⟩ (.slice (some ⟨gd, 0, none⟩) nd cd)).setCell ⟨w.heap.size + 1, 1, none⟩ (.slice (some ⟨gh, 0, none⟩) nh ch)).setCell ⟨w.heap.size + 1, 2, none⟩ (.slice (some ⟨gf, 0, none⟩) nf cf)).heap[q]? = wr.heap[q]? := fun q hq =>
                ((Below.heap_setCell _ _ _ _ (by show q ≠ w.heap.size + 1; omega)).trans (Below.heap_setCell _ _ _ _ (by show q ≠ w.heap.size + 1; omega))).trans (Below.heap_setCell _ _ _ _ (by show q ≠ w.heap.size + 1; omega))
              have own : ∀ {gg nn cc : Nat} {L : List Int}, Ow eI 1 wr B 2 (.slice (some ⟨gg, 0, none⟩) nn cc) nn L → Rd eI 1 (((wr.setCell ⟨w.heap.size + 1, 0, none⟩ (.slice (some ⟨gd, 0, none⟩) nd cd)).setCell ⟨w.heap.size + 1, 1, none⟩ (.slice (some ⟨gh, 0, none⟩) nh ch)).setCell ⟨w.heap.size + 1, 2, none⟩ (.slice (some ⟨gf, 0, none⟩) nf cf)) (some ⟨gg, 0, none⟩) L := fun {gg nn cc L} h =>
                Ow.rd eI_len (by decide) (h.same fun q hq => hmv q (by simp only [Value.ownBlock, Option.some.injEq] at hq; have := (own_lt h).1; omega))
              have HRF := Lib.hid (And.intro (own HG.out.D) (And.intro (own HG.out.H) (own HG.out.F)))
              have hd1 := HG.out.D.len eI_len (by decide)
              have hh1 := HG.out.H.len eI_len (by decide)
              have hf1 := HG.out.F.len eI_len (by decide)
              have HGO : Hid (GridOk m Ds Hs Fs) := Lib.hid ⟨HK5.out.1, HK8.out.1, HGD.out.1, HK5.out.2, HK8.out.2, HGD.out.2, by omega, by omega, by omega⟩
              have HLEN := Lib.hid (And.intro hd1 (And.intro hh1 hf1))
              have HPO : Hid (∀ w', Below w.heap.size w w' → (Rd eI 1 w' (some ⟨gd, 0, none⟩) Ds ∧ Rd eI 1 w' (some ⟨gh, 0, none⟩) Hs ∧ Rd eI 1 w' (some ⟨gf, 0, none⟩) Fs) → DrawnG m w (.returned (.agg #[(.slice (some ⟨gd, 0, none⟩) nd cd), (.slice (some ⟨gh, 0, none⟩) nh ch), (.slice (some ⟨gf, 0, none⟩) nf cf)])) w') := Lib.hid fun w' h1 h2 => ⟨_, _, _, _, _, _, _, _, _, Ds, Hs, Fs, rfl, HGO.out, HLEN.out, h2, h1⟩
              obtain ⟨wF, hwF⟩ : ∃ wF, (((wr.setCell ⟨w.heap.size + 1, 0, none⟩ (.slice (some ⟨gd, 0, none⟩) nd cd)).setCell ⟨w.heap.size + 1, 1, none⟩ (.slice (some ⟨gh, 0, none⟩) nh ch)).setCell ⟨w.heap.size + 1, 2, none⟩ (.slice (some ⟨gf, 0, none⟩) nf cf)) = wF := ⟨_, rfl⟩
              rw [hwF] at HC3 HBF HRF
              have HWF := Lib.hid hwF
              clear hwF hok hwEs hXw hmv own hd1 hh1 hf1
              go_wp2_with fail
              rw [HWF.out]
              have e0 : wF.cell? ⟨w.heap.size + 1, 0, none⟩ = some (.slice (some ⟨gd, 0, none⟩) nd cd) := HC3.out.cell 0
              have e1 : wF.cell? ⟨w.heap.size + 1, 1, none⟩ = some (.slice (some ⟨gh, 0, none⟩) nh ch) := HC3.out.cell 1
              have e2 : wF.cell? ⟨w.heap.size + 1, 2, none⟩ = some (.slice (some ⟨gf, 0, none⟩) nf cf) := HC3.out.cell 2
              refine bodyPost_ret (v := .agg #[(.slice (some ⟨gd, 0, none⟩) nd cd), (.slice (some ⟨gh, 0, none⟩) nh ch), (.slice (some ⟨gf, 0, none⟩) nf cf)]) ((results_cell1 rfl _ _ _).trans ?r1) rfl ?_
              case r1 => go_simp
              exact HPO.out _ HBF.out HRF.out
end Go.Proofs.Ytlgjdfagmeehcaa
