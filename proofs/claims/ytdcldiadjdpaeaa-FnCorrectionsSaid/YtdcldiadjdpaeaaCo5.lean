/-
  The shifts of all observers: the program.
-/
import Derived.Test.YtdcldiadjdpaeaaCo4
import Derived.Test.YtdcldiadjdpaeaaCoQ
import Derived.Deep.DeepCutAuto
import Derived.Deep.RegionWith
import Derived.Deep.CutRange
import Derived.Deep.Light
namespace Go.Proofs.Ytdcldiadjdpaeaa
open Go.RowKit
set_option maxRecDepth 100000
set_option linter.unusedVariables false
set_option linter.unusedSimpArgs false
/-- the rows of shifts and of truth values, and the shifts' box -/
structure SpR (B0 : Nat) (W0 w : World) (gs hs hv n cs cv : Nat) (S : List Int) (K : List Bool) : Prop where
  bs : CAt w gs #[.slice (some ⟨hs, 0, none⟩) n cs] 27
  os : Ow eI 1 w B0 2 (.slice (some ⟨hs, 0, none⟩) n cs) n S
  ov : Ow eBo 1 w B0 4 (.slice (some ⟨hv, 0, none⟩) n cv) n K
  b : Below B0 W0 w
  lo : B0 ≤ gs
  sz : W0.heap.size = B0
  ne : hs ≠ hv ∧ gs ≠ hs ∧ gs ≠ hv
theorem Ow.ge {α : Type} {enc : α → List Value} {k base e n c g : Nat} {w : World} {xs : List α} (h : Ow enc k w base e (.slice (some ⟨g, 0, none⟩) n c) n xs) : base ≤ g ∧ g < w.heap.size := h.lt g rfl
section
variable {B0 gs hs hv n cs cv : Nat} {W0 w w' : World} {S : List Int} {K : List Bool}
theorem SpR.le (h : SpR B0 W0 w gs hs hv n cs cv S K) : B0 ≤ w.heap.size := by have := h.b.size; have := h.sz; omega
theorem SpR.below (h : SpR B0 W0 w gs hs hv n cs cv S K) (hb : Below w.heap.size w w') : SpR B0 W0 w' gs hs hv n cs cv S K :=
  ⟨h.bs.below hb, h.os.below hb, h.ov.below hb, h.b.trans (hb.mono h.le), h.lo, h.sz, h.ne⟩
theorem SpR.setS (h : SpR B0 W0 w gs hs hv n cs cv S K) (i : Nat) (x : Int) : SpR B0 W0 (w.setCell ⟨hs, i, none⟩ (.int .i64 x)) gs hs hv n cs cv (S.set i x) K :=
  ⟨h.bs.setNe h.ne.2.1 i _, h.os.setI2 i x, h.ov.setOtherC (by simp [Value.ownBlock]; exact fun e => h.ne.1 e.symm) i _, h.b.setCell (p := ⟨hs, i, none⟩) h.os.ge.1 _, h.lo, h.sz, h.ne⟩
theorem SpR.setK (h : SpR B0 W0 w gs hs hv n cs cv S K) (i : Nat) (x : Bool) : SpR B0 W0 (w.setCell ⟨hv, i, none⟩ (.bool x)) gs hs hv n cs cv S (K.set i x) :=
  ⟨h.bs.setNe h.ne.2.2 i _, h.os.setOtherC (by simp [Value.ownBlock]; exact h.ne.1) i _, h.ov.setBo i x, h.b.setCell (p := ⟨hv, i, none⟩) h.ov.ge.1 _, h.lo, h.sz, h.ne⟩
theorem SpR.cS (h : SpR B0 W0 w gs hs hv n cs cv S K) {i : Nat} (hi : i < n) : w.cell? ⟨hs, i, none⟩ = some (.int .i64 (S.getD i 0)) := by
  have hl := h.os.len eI_len (by decide)
  exact h.os.cellI2 (by rw [List.getElem?_eq_getElem (by omega)]; simp [List.getD, List.getElem?_eq_getElem (show i < S.length by omega)])
theorem SpR.cK (h : SpR B0 W0 w gs hs hv n cs cv S K) {i : Nat} (hi : i < n) : w.cell? ⟨hv, i, none⟩ = some (.bool (K.getD i false)) := by
  have hl := h.ov.len eBo_len (by decide)
  exact h.ov.cellBo (by rw [List.getElem?_eq_getElem (by omega)]; simp [List.getD, List.getElem?_eq_getElem (show i < K.length by omega)])
theorem SpR.fS (h : SpR B0 W0 w gs hs hv n cs cv S K) (i : Nat) : w.frozen? ⟨hs, i, none⟩ = false := World.ownsRow.frozenAt h.os i
theorem SpR.fK (h : SpR B0 W0 w gs hs hv n cs cv S K) (i : Nat) : w.frozen? ⟨hv, i, none⟩ = false := World.ownsRow.frozenAt h.ov i
end
/-- three new blocks -/
theorem alloc3 (w : World) (A B C : Obj) : (((w.alloc A).alloc B).alloc C).drew.heap[w.heap.size]? = some A ∧ (((w.alloc A).alloc B).alloc C).drew.heap[w.heap.size + 1]? = some B ∧ (((w.alloc A).alloc B).alloc C).drew.heap[w.heap.size + 1 + 1]? = some C ∧ Below w.heap.size w (((w.alloc A).alloc B).alloc C).drew := by
  have e1 : (w.alloc A).heap.size = w.heap.size + 1 := by simp
  have e2 : ((w.alloc A).alloc B).heap.size = w.heap.size + 1 + 1 := by simp
  have b1 : Below w.heap.size w (w.alloc A) := (Below.refl _ _).alloc (Nat.le_refl _) _
  have b2 : Below (w.heap.size + 1) (w.alloc A) ((w.alloc A).alloc B) := by have := (Below.refl (w.alloc A).heap.size (w.alloc A)).alloc (Nat.le_refl _) B; rw [e1] at this; exact this
  have b3 : Below (w.heap.size + 1 + 1) ((w.alloc A).alloc B) (((w.alloc A).alloc B).alloc C) := by have := (Below.refl ((w.alloc A).alloc B).heap.size ((w.alloc A).alloc B)).alloc (Nat.le_refl _) C; rw [e2] at this; exact this
  have a1 := heap_alloc_new w A
  have a2 := heap_alloc_new (w.alloc A) B
  have a3 := heap_alloc_new ((w.alloc A).alloc B) C
  rw [e1] at a2
  rw [e2] at a3
  have d1 : (((w.alloc A).alloc B).alloc C).drew.heap = (((w.alloc A).alloc B).alloc C).heap := rfl
  rw [d1]
  refine ⟨?_, ?_, a3, ((b1.trans (b2.mono (by omega))).trans (b3.mono (by omega))).drew⟩
  · rw [b3.block _ (by omega), b2.block _ (by omega)]; exact a1
  · rw [b3.block _ (by omega)]; exact a2
theorem Ow.at2 {α : Type} {enc : α → List Value} {k e n c g0 g base : Nat} {w wx : World} {CS : Array Value} {xs : List α} (h : Ow enc k w g0 e (.slice (some ⟨g0, 0, none⟩) n c) n xs) (h0 : w.heap[g0]? = some (.cells CS e (0, 0))) (hx : wx.heap[g]? = some (.cells CS e (0, 0))) (hb : base ≤ g) : Ow enc k wx base e (.slice (some ⟨g, 0, none⟩) n c) n xs := by
  refine ⟨h.1, ?_⟩
  rcases h.2 with ⟨hv, _⟩ | ⟨g', cap, cur, hv, _, hg, h1, h2, h3, h4⟩
  · cases hv
  · cases hv
    rw [h0] at hg
    injection hg with hg
    injection hg with hg
    subst hg
    exact .inr ⟨g, c, CS, rfl, hb, hx, h1, h2, h3, h4⟩
theorem SpR.made {B gs hs hv n : Nat} {w wx : World} {CS CB : Array Value} (hB : w.heap.size = B) (hS : ∀ w : World, Ow eI 1 (w.alloc (.cells CS 2)) w.heap.size 2 (.slice (some ⟨w.heap.size, 0, none⟩) n n) n (List.replicate n 0)) (hK : ∀ w : World, Ow eBo 1 (w.alloc (.cells CB 4)) w.heap.size 4 (.slice (some ⟨w.heap.size, 0, none⟩) n n) n (List.replicate n false))
    (h1 : wx.heap[gs]? = some (.cells #[.slice (some ⟨hs, 0, none⟩) n n] 27 (0, 0))) (h2 : wx.heap[hs]? = some (.cells CS 2 (0, 0))) (h3 : wx.heap[hv]? = some (.cells CB 4 (0, 0))) (hb : Below w.heap.size w wx) (l1 : B ≤ gs) (l2 : B ≤ hs) (l3 : B ≤ hv) :
    SpR B w wx gs hs hv n n n (List.replicate n 0) (List.replicate n false) :=
  ⟨h1, (hS w).at2 (heap_alloc_new w _) h2 l2, (hK w).at2 (heap_alloc_new w _) h3 l3, by rw [← hB]; exact hb, l1, hB, fun e => by rw [e, h3] at h2; simp at h2, fun e => by rw [e, h2] at h1; simp at h1, fun e => by rw [e, h3] at h1; simp at h1⟩
theorem Ow.neBlk {α β : Type} {enc : α → List Value} {enc' : β → List Value} {k k' base base' e e' n n' c c' g g' : Nat} {w : World} {xs : List α} {ys : List β} (h : Ow enc k w base e (.slice (some ⟨g, 0, none⟩) n c) n xs) (h' : Ow enc' k' w base' e' (.slice (some ⟨g', 0, none⟩) n' c') n' ys) (hne : e ≠ e') : g ≠ g' := fun he => by
  subst he
  rcases h.2 with ⟨hv, _⟩ | ⟨q, cap, cur, hv, _, hg, _⟩
  · cases hv
  rcases h'.2 with ⟨hv', _⟩ | ⟨q', cap', cur', hv', _, hg', _⟩
  · cases hv'
  cases hv
  cases hv'
  rw [hg] at hg'
  simp at hg'
  exact hne hg'.2
/-- the copy of the truth values that a round reads -/
structure BefR (w : World) (Bq gb hb n cb : Nat) (K : List Bool) : Prop where
  bb : CAt w gb #[.slice (some ⟨hb, 0, none⟩) n cb] 42
  ob : Ow eBo 1 w Bq 4 (.slice (some ⟨hb, 0, none⟩) n cb) n K
theorem BefR.below {w w' : World} {Bq gb hb n cb : Nat} {K : List Bool} (h : BefR w Bq gb hb n cb K) (h2 : Below w.heap.size w w') : BefR w' Bq gb hb n cb K := ⟨h.bb.below h2, h.ob.below h2⟩
theorem BefR.set {w : World} {Bq gb hb n cb g : Nat} {K : List Bool} (h : BefR w Bq gb hb n cb K) (h1 : gb ≠ g) (h2 : hb ≠ g) (i : Nat) (u : Value) : BefR (w.setCell ⟨g, i, none⟩ u) Bq gb hb n cb K :=
  ⟨h.bb.setNe h1 i u, h.ob.setOtherC (by simp [Value.ownBlock]; exact h2) i u⟩
theorem BefR.cK {w : World} {Bq gb hb n cb i : Nat} {K : List Bool} (h : BefR w Bq gb hb n cb K) (hi : i < n) : w.cell? ⟨hb, i, none⟩ = some (.bool (K.getD i false)) := by
  have hl := h.ob.len eBo_len (by decide)
  exact h.ob.cellBo (by rw [List.getElem?_eq_getElem (by omega)]; simp [List.getD, List.getElem?_eq_getElem (show i < K.length by omega)])
set_option maxHeartbeats 8000000 in
theorem spread_any (n : Nat) (L : List Com) (first : Int) (a : Option Addr) (m c : Nat) (w : World) (hok : ComsOk (n : Int) L) (h0 : 0 ≤ first) (h1 : first < n) (hl : L.length = m) (hr : Rd Com.enc 3 w a L) :
    Calls Try.prog 21 #[.int .i64 (n : Int), .slice a m c, .int .i64 first] w fun e w' => ∃ gs hs hv S K, e = .returned (.tuple #[.slice (some ⟨hs, 0, none⟩) n n, .slice (some ⟨hv, 0, none⟩) n n]) ∧ SpR w.heap.size w w' gs hs hv n n n S K ∧ FinQ n L first S K := by
  have hn1 := hok.n1
  have hn2 := hok.n2
  have hm60 := hok.l
  have HL := Lib.hid hl
  have HOK := Lib.hid hok
  have HR := Lib.hid hr
  obtain ⟨B, hB⟩ : ∃ B, w.heap.size = B := ⟨_, rfl⟩
  obtain ⟨CS, hmk, hown⟩ := makeRow n (by omega)
  obtain ⟨CB, hmkB, hownB⟩ := makeBo n (by omega)
  have HBW := Lib.hid hB
  clear hl hr hok
  go_enter Try.func21, Try.ntmps21
  rw [hB]
  clear hB
  go_upto_region 1 with (fail)
  go_cut [8, 9] (fun s8 s9 wx => ∃ gs hs hv, s8 = .pointer (some ⟨gs, 0, none⟩) ∧ s9 = .slice (some ⟨hv, 0, none⟩) n n ∧ Hid (SpR B w wx gs hs hv n n n (List.replicate n 0) (List.replicate n false)))
  case first =>
    go_region
    all_goals
      go_wp2_with fail
      go_meet
      first
        | exact ⟨_, _, _, rfl, rfl, Lib.hid (SpR.made HBW.out hown hownB (alloc3 _ _ _ _).1 (alloc3 _ _ _ _).2.1 (alloc3 _ _ _ _).2.2.1 (alloc3 _ _ _ _).2.2.2 (by have := HBW.out; omega) (by have := HBW.out; omega) (by have := HBW.out; omega))⟩
        | exact ⟨_, _, _, rfl, rfl, Lib.hid (SpR.made HBW.out hown hownB (alloc3 _ _ _ _).1 (alloc3 _ _ _ _).2.2.1 (alloc3 _ _ _ _).2.1 (alloc3 _ _ _ _).2.2.2 (by have := HBW.out; omega) (by have := HBW.out; omega) (by have := HBW.out; omega))⟩
        | exact ⟨_, _, _, rfl, rfl, Lib.hid (SpR.made HBW.out hown hownB (alloc3 _ _ _ _).2.1 (alloc3 _ _ _ _).1 (alloc3 _ _ _ _).2.2.1 (alloc3 _ _ _ _).2.2.2 (by have := HBW.out; omega) (by have := HBW.out; omega) (by have := HBW.out; omega))⟩
        | exact ⟨_, _, _, rfl, rfl, Lib.hid (SpR.made HBW.out hown hownB (alloc3 _ _ _ _).2.1 (alloc3 _ _ _ _).2.2.1 (alloc3 _ _ _ _).1 (alloc3 _ _ _ _).2.2.2 (by have := HBW.out; omega) (by have := HBW.out; omega) (by have := HBW.out; omega))⟩
        | exact ⟨_, _, _, rfl, rfl, Lib.hid (SpR.made HBW.out hown hownB (alloc3 _ _ _ _).2.2.1 (alloc3 _ _ _ _).1 (alloc3 _ _ _ _).2.1 (alloc3 _ _ _ _).2.2.2 (by have := HBW.out; omega) (by have := HBW.out; omega) (by have := HBW.out; omega))⟩
        | exact ⟨_, _, _, rfl, rfl, Lib.hid (SpR.made HBW.out hown hownB (alloc3 _ _ _ _).2.2.1 (alloc3 _ _ _ _).2.1 (alloc3 _ _ _ _).1 (alloc3 _ _ _ _).2.2.2 (by have := HBW.out; omega) (by have := HBW.out; omega) (by have := HBW.out; omega))⟩
        | fail
  case rest =>
  obtain ⟨gs, hs, hv, rfl, rfl, HT0⟩ := hcut
  clear hmk hmkB hown hownB
  have j0 : first.toNat < n := by omega
  have cv : wc.cell? ⟨hv, first.toNat, none⟩ = some (.bool ((List.replicate n false).getD first.toNat false)) := HT0.out.cK j0
  have fv : wc.frozen? ⟨hv, first.toNat, none⟩ = false := HT0.out.fK _
  have HT1 := Lib.hid (HT0.out.setK first.toNat true)
  have HR0 : Hid (rdC n L first 0 = (List.replicate n 0, (List.replicate n false).set first.toNat true)) := Lib.hid rfl
  have HZ := Lib.hid (RdI.zero (n := n) h0 h1)
  have HC1 : Hid (1 ≤ cntK n ((List.replicate n false).set first.toNat true)) := Lib.hid (cnt_first h1 h0 HZ.out)
  clear HT0
  go_upto_region 3 with (fail)
  obtain ⟨w1, hw1⟩ : ∃ z, wc.setCell ⟨hv, first.toNat, none⟩ (.bool true) = z := ⟨_, rfl⟩
  rw [hw1] at HT1 ⊢
  clear hw1 cv fv
  go_wp2_with fail
  go_loopg [10] (n + 1) (fun gk av wr => ∃ (fl : Bool) (k : Nat) (S : List Int) (K : List Bool), av = .bool fl ∧ Hid (SpR B w wr gs hs hv n n n S K) ∧ Hid (rdC n L first k = (S, K) ∧ k + 1 ≤ cntK n K ∧ (fl = false → hasNew n S K L = false)) ∧ Hid (gk = if fl = true then n + 1 - k else 0))
  case atStart => exact ⟨true, 0, _, _, rfl, HT1, Lib.hid ⟨HR0.out, HC1.out, fun h => by cases h⟩, Lib.hid (by simp)⟩
  case round =>
  obtain ⟨fl, k, S, K, rfl, HT, HQ, HG⟩ := hrel
  cases fl with
  | false =>
    have HF : Hid (FinQ n L first S K) := Lib.hid ⟨⟨k, by have := HQ.out.2.1; have := cnt_n n K; omega, HQ.out.1⟩, HQ.out.2.2 rfl⟩
    have cb : wr.cell? ⟨gs, 0, none⟩ = some (.slice (some ⟨hs, 0, none⟩) n n) := HT.out.bs.cell 0
    go_wp2_with fail
    go_ret2
    exact ⟨gs, hs, hv, rfl, S, K, HT.out, HF.out⟩
  | true =>
  have HI : Hid (RdI n first k S K) := Lib.hid (by have := rdC_ok HOK.out.e h0 h1 k; rw [HQ.out.1] at this; exact this)
  have hkn : k + 1 ≤ n := by have := HQ.out.2.1; have := cnt_n n K; omega
  obtain ⟨wA, hwA⟩ : ∃ wx, wx = wr := ⟨_, rfl⟩
  subst hwA
  go_wp2_with fail
  refine (copyBo K (some ⟨hv, 0, none⟩) n n wA (by omega) HI.out.lk (HT.out.ov.rd eBo_len (by decide))).mono ?_
  rintro e w2 ⟨a2, cb, rfl, ho2, hb2⟩
  obtain ⟨hb, hab, hbl1, hbl2⟩ := ho2.at_ (by omega)
  subst hab
  have HT2 := Lib.hid (HT.out.below hb2)
  obtain ⟨Bq, hBq⟩ : ∃ q, wA.heap.size = q := ⟨_, rfl⟩
  rw [hBq] at ho2 hbl1
  have hx2 := bx1 w2 #[.slice (some ⟨hb, 0, none⟩) n cb] 42
  have HT3 := Lib.hid (HT2.out.below hx2.2.1)
  have HBE := Lib.hid (show BefR (w2.alloc (.cells #[.slice (some ⟨hb, 0, none⟩) n cb] 42)) Bq w2.heap.size hb n cb K from ⟨hx2.1, ho2.below hx2.2.1⟩)
  have hsq : hs < Bq := by rw [← hBq]; exact HT.out.os.ge.2
  have hvq : hv < Bq := by rw [← hBq]; exact HT.out.ov.ge.2
  have hgq : Bq ≤ w2.heap.size := by have := hb2.size; omega
  go_upto_region 7 with (fail)
  obtain ⟨gb, hgb⟩ : ∃ g, w2.heap.size = g := ⟨_, rfl⟩
  obtain ⟨w3, hw3⟩ : ∃ z, w2.alloc (.cells #[.slice (some ⟨hb, 0, none⟩) n cb] 42) = z := ⟨_, rfl⟩
  rw [hw3, hgb] at HBE ⊢
  rw [hw3] at HT3
  rw [hgb] at hgq
  have HM0 : Hid (SpR B w w3 gs hs hv n n n (mixS n S K L 0) (mixK n S K L 0)) := Lib.hid (by rw [mixS_zero HI.out.ls, mixK_zero HI.out.lk]; exact HT3.out)
  clear hgb hw3 hx2 ho2 hb2 HT2 HT3 HT hbl2 hBq
  go_wp2_with fail
  go_loopw [10, 25] (fun av iv wr => ∃ j : Nat, j ≤ n ∧ iv = .int .i64 j ∧ av = .bool (newJ S K L j) ∧ Hid (SpR B w wr gs hs hv n n n (mixS n S K L j) (mixK n S K L j)) ∧ Hid (BefR wr Bq gb hb n cb K)) (fun _ iv _ => n - (intOf iv).toNat)
  case atStart => exact ⟨0, Nat.zero_le _, rfl, rfl, HM0, HBE⟩
  case round =>
    obtain ⟨j, hj, rfl, rfl, HM, HE⟩ := hrel
    obtain ⟨wB, hwB⟩ : ∃ wx, wx = wr := ⟨_, rfl⟩
    subst hwB
    by_cases hlt : j < n
    case neg =>
      obtain rfl : j = n := by omega
      have HMS : Hid (SpR B w wB gs hs hv j j j (stS j S K L) (stK j S K L)) := Lib.hid (by have := HM.out; rw [mixS_all, mixK_all] at this; exact this)
      have HRD : Hid (rdC j L first (k + 1) = (stS j S K L, stK j S K L)) := Lib.hid (by show (stS j (rdC j L first k).1 (rdC j L first k).2 L, stK j (rdC j L first k).1 (rdC j L first k).2 L) = _; rw [HQ.out.1])
      cases hN : newJ S K L j with
      | true =>
        have HQ2 : Hid (rdC j L first (k + 1) = (stS j S K L, stK j S K L) ∧ k + 1 + 1 ≤ cntK j (stK j S K L) ∧ ((true : Bool) = false → hasNew j (stS j S K L) (stK j S K L) L = false)) := Lib.hid ⟨HRD.out, by have h8 := new_cnt (n := j) (S := S) (K := K) (L := L) hN; have h9 := HQ.out.2.1; omega, fun h => by cases h⟩
        have HGE : Hid (j + 1 - (k + 1) = if (true : Bool) = true then j + 1 - (k + 1) else 0) := Lib.hid (by simp)
        clear hN
        go_wp2_with fail
        go_roundg (j + 1 - (k + 1))
        case rel => exact ⟨true, k + 1, _, _, rfl, HMS, HQ2, HGE⟩
        case measure => have := HG.out; simp at this; omega
      | false =>
        obtain ⟨e1, e2⟩ := same_round HI.out.ls HI.out.lk hN
        rw [e1, e2] at HMS
        have HQ2 : Hid (rdC j L first k = (S, K) ∧ k + 1 ≤ cntK j K ∧ ((false : Bool) = false → hasNew j S K L = false)) := Lib.hid ⟨HQ.out.1, HQ.out.2.1, fun _ => hN⟩
        have HGE : Hid (0 = if (false : Bool) = true then j + 1 - k else 0) := Lib.hid (by simp)
        clear hN e1 e2
        go_wp2_with fail
        go_roundg 0
        case rel => exact ⟨false, k, _, _, rfl, HMS, Lib.hid ⟨HQ2.out.1, HQ2.out.2.1, fun _ => by first | exact HQ2.out.2.2 trivial | exact HQ2.out.2.2 rfl⟩, HGE⟩
        case measure => have := HG.out; simp at this; omega
    have cbx : wB.cell? ⟨gb, 0, none⟩ = some (.slice (some ⟨hb, 0, none⟩) n cb) := HE.out.bb.cell 0
    have cbk : wB.cell? ⟨hb, j, none⟩ = some (.bool (K.getD j false)) := HE.out.cK hlt
    have j1 : (0 : Int) ≤ (j : Nat) := by omega
    have j2 : ((j : Nat) : Int) < (n : Nat) := by omega
    cases hkj : K.getD j false with
    | true =>
      obtain ⟨u1, u2⟩ := up_known (S := S) (L := L) hkj
      rw [hkj] at cbk
      have HM2 : Hid (SpR B w wB gs hs hv n n n (mixS n S K L (j + 1)) (mixK n S K L (j + 1))) := Lib.hid (by rw [mixS_no u1, mixK_no u2]; exact HM.out)
      have HNJ : Hid (newJ S K L (j + 1) = newJ S K L j) := Lib.hid (by rw [newJ_succ, u2, Bool.or_false])
      clear u1 u2 hkj
      go_wp2_with fail
      go_roundw
      case rel => exact ⟨j + 1, by omega, by go_num, by rw [HNJ.out], HM2, HE⟩
      case measure => simp [intOf]; omega
    | false =>
      rw [hkj] at cbk
      obtain ⟨B2, hB2⟩ : ∃ q, wB.heap.size = q := ⟨_, rfl⟩
      have hob := Ow.built eI 1 wB 2
      have hbb := below_built wB 2
      have hbx2 := bx1 (wB.alloc (.cells #[] 2)) #[.slice (some ⟨wB.heap.size, 0, none⟩) 0 0] 27
      have hgd : (wB.alloc (.cells #[] 2)).heap.size = wB.heap.size + 1 := by simp
      rw [hgd] at hbx2
      rw [hB2] at hob hbb hbx2 hgd
      have hbz : Below B2 wB ((wB.alloc (.cells #[] 2)).alloc (.cells #[.slice (some ⟨B2, 0, none⟩) 0 0] 27)) := hbb.trans (hbx2.2.1.mono (by omega))
      have hbp : BoxP B2 ((wB.alloc (.cells #[] 2)).alloc (.cells #[.slice (some ⟨B2, 0, none⟩) 0 0] 27)) (B2 + 1) B2 0 0 [] := ⟨by omega, hbx2.1, hob.below (by rw [hgd]; exact hbx2.2.1)⟩
      have HSEE : Hid (SeeR wB B2 n gb gs hb hs cb n (mixS n S K L j) K) := Lib.hid ⟨hB2, HE.out.bb, HM.out.bs, by rw [← hB2]; exact HE.out.ob.ge.2, by rw [← hB2]; exact HM.out.os.ge.2, fun i hi => HE.out.cK hi, fun i hi => HM.out.cS hi, mixS_bd HOK.out.e hkn (by omega) HI.out⟩
      have HRB := Lib.hid (HR.out.below (by have h9 := HM.out.b; rw [← HBW.out] at h9; exact h9))
      have HBB := Lib.hid hB2
      have HKJ := Lib.hid hkj
      go_upto_region 12 with (fail)
      generalize (wB.alloc (.cells #[] 2)).alloc (.cells #[.slice (some ⟨B2, 0, none⟩) 0 0] 27) = w4 at *
      have HBZ := Lib.hid hbz
      have HBP := Lib.hid hbp
      clear hob hbb hbx2 hgd hbz hbp cbx cbk hB2 hkj
      have hcf : ∀ (args : Array Value) (wx : World), (callFunc 45 args).run Try.prog wx = .ok (.enter 45 args) wx := fun args wx => by kernel_rfl
      have HAG := Lib.hid (against_any L (j : Int) 45 #[.pointer (some ⟨gb, 0, none⟩), .pointer (some ⟨B2 + 1, 0, none⟩), .pointer (some ⟨gs, 0, none⟩)] (fun pre wx => Below B2 wB wx ∧ BoxL B2 wx (B2 + 1) (nmP (mixS n S K L j) K pre)) a m c w4 (by have := HL.out; omega) HL.out hcf
        (fun pre wx hj => HRB.out.below (by rw [HBB.out]; exact hj.1)) (fun pre wx wy hj hb => ⟨hj.1.trans (hb.mono (by have h8 := hj.1.size; have h9 := HBB.out; omega)), hj.2.below hb⟩) (fun x hx => ⟨(HOK.out.e x hx).d0, (HOK.out.e x hx).d1⟩)
        (fun pre pr wx hpm hpl hj => by obtain ⟨q0, q1, q2, q3, _⟩ := agL_ok HOK.out.e hpm; exact spStep B2 n gb (B2 + 1) gs hb hs cb n _ K pre pr wB wx (by have := HL.out; omega) (by omega) HSEE.out q0 q1 q2 q3 hj.1 hj.2) ⟨HBZ.out, B2, 0, 0, HBP.out⟩)
      clear hcf
      go_wp2_with fail
      refine HAG.out.mono ?_
      rintro e w5 ⟨rfl, hj1, g5, m5, c5, hp5⟩
      rw [nmP_mix (fun p hp => ⟨(agL_ok HOK.out.e hp).1, (agL_ok HOK.out.e hp).2.1⟩)] at hp5
      have hp5 : BoxP B2 w5 (B2 + 1) g5 m5 c5 (nmI S K L (j : Int)) := hp5
      have hbW : Below wB.heap.size wB w5 := by rw [HBB.out]; exact hj1
      have HM5 := Lib.hid (HM.out.below hbW)
      have HE5 := Lib.hid (HE.out.below hbW)
      have HP5 := Lib.hid hp5
      have hl5 := hp5.len
      have cd : w5.cell? ⟨B2 + 1, 0, none⟩ = some (.slice (some ⟨g5, 0, none⟩) m5 c5) := hp5.box.cell 0
      clear hj1 hp5 hbW HAG HSEE HRB HBZ HBP
      by_cases hz : m5 = 0
      · obtain ⟨u1, u2⟩ := up_none (S := S) (K := K) (L := L) (j := j) (List.eq_nil_of_length_eq_zero (by omega))
        have HM2 : Hid (SpR B w w5 gs hs hv n n n (mixS n S K L (j + 1)) (mixK n S K L (j + 1))) := Lib.hid (by rw [mixS_no u1, mixK_no u2]; exact HM5.out)
        have HNJ : Hid (newJ S K L (j + 1) = newJ S K L j) := Lib.hid (by rw [newJ_succ, u2, Bool.or_false])
        clear u1 u2 hl5
        subst hz
        go_wp2_with fail
        go_roundw
        case rel => exact ⟨j + 1, by omega, by go_num, by rw [HNJ.out], HM2, HE5⟩
        case measure => simp [intOf]; omega
      · obtain ⟨u1, u2, u3⟩ := up_some (S := S) (K := K) (L := L) (j := j) HKJ.out (fun e => hz (by rw [← hl5, e]; rfl))
        have hml := nmI_len S K L (j : Int)
        have hm5 : m5 ≤ 60 := by omega
        have HNB : Hid (∀ y ∈ nmI S K L (j : Int), -1000000000 ≤ y ∧ y ≤ 1000000000) := Lib.hid fun y hy => by have := nmI_bd (k := k) HOK.out.e HI.out.bd y hy; omega
        have HMD : Hid (∀ wq, Below w5.heap.size w5 wq → Calls Try.prog 32 #[.slice (some ⟨g5, 0, none⟩) m5 c5] wq fun e w' => e = .returned (.int .i64 (medI (nmI S K L (j : Int)))) ∧ Below wq.heap.size wq w') := Lib.hid fun wq hq => median_any _ _ m5 c5 wq (by omega) (by omega) HNB.out hl5 ((HP5.out.row.rd eI_len (by decide)).below hq)
        obtain ⟨md, hmd⟩ : ∃ z, medI (nmI S K L (j : Int)) = z := ⟨_, rfl⟩
        rw [hmd] at HMD u1
        have HFX : Hid (∀ wq, Below w5.heap.size w5 wq → SpR B w wq gs hs hv n n n (mixS n S K L j) (mixK n S K L j) ∧ BefR wq Bq gb hb n cb K) := Lib.hid fun wq hq => ⟨HM5.out.below hq, HE5.out.below hq⟩
        have HU : Hid (upS S K L j = md ∧ upK S K L j = true ∧ newJ S K L (j + 1) = true) := Lib.hid ⟨u1, u3, by rw [newJ_succ, u2, Bool.or_true]⟩
        have cs5 : w5.cell? ⟨gs, 0, none⟩ = some (.slice (some ⟨hs, 0, none⟩) n n) := HM5.out.bs.cell 0
        have dz : (0 : Int) < (m5 : Int) := by omega
        have ds5 : w5.drew.cell? ⟨gs, 0, none⟩ = some (.slice (some ⟨hs, 0, none⟩) n n) := cs5
        have dd5 : w5.drew.cell? ⟨B2 + 1, 0, none⟩ = some (.slice (some ⟨g5, 0, none⟩) m5 c5) := cd
        clear u1 u2 u3 hl5 hml hmd hz
        go_upto_region 14 with (fail)
        go_region_with (go_at_call 32; refine (HMD.out _ (by first | exact Below.refl _ _ | exact (Below.refl _ _).drew)).mono ?_; rintro e w6 ⟨rfl, hb6⟩; obtain ⟨t6, e6⟩ := HFX.out w6 (by first | exact hb6 | exact (Below.refl _ _).drew.trans hb6); have x1 := t6.cS hlt; have x2 := t6.fS j; have x3 := (t6.setS j md).cK hlt; have x4 := (t6.setS j md).fK j; have x5 : w6.cell? ⟨gs, 0, none⟩ = some (.slice (some ⟨hs, 0, none⟩) n n) := t6.bs.cell 0; have T6 := Lib.hid t6; have E6 := Lib.hid e6; clear t6 e6 hb6)
        all_goals
          go_wp2_with fail
          go_roundw
          case rel => exact ⟨j + 1, by omega, by go_num, by rw [HU.out.2.2], Lib.hid (by rw [← mixS_yes hlt, ← mixK_yes hlt, HU.out.1, HU.out.2.1]; exact (T6.out.setS j md).setK j true), Lib.hid ((E6.out.set (by omega) (by have := E6.out.ob.ge.1; omega) j _).set (by omega) (by have := E6.out.ob.ge.1; omega) j _)⟩
          case measure => simp [intOf]; omega
end Go.Proofs.Ytdcldiadjdpaeaa
