/-
  The shifts of all observers: the reference.
-/
import Derived.Test.YtdcldiadjdpaeaaCo3
import Derived.Test.YtdcldiadjdpaeaaCo5
import Derived.Deep.RegionLaw
namespace Go.Proofs.Ytdcldiadjdpaeaa
open Go.RowKit
set_option maxRecDepth 100000
set_option linter.unusedVariables false
set_option linter.unusedSimpArgs false
/-- the rows of shifts and of truth values -/
structure SqR (B0 : Nat) (W0 w : World) (hs hv n : Nat) (S : List Int) (K : List Bool) : Prop where
  os : Ow eI 1 w B0 2 (.slice (some ⟨hs, 0, none⟩) n n) n S
  ov : Ow eBo 1 w B0 4 (.slice (some ⟨hv, 0, none⟩) n n) n K
  b : Below B0 W0 w
  sz : W0.heap.size = B0
  ne : hs ≠ hv
section
variable {B0 hs hv hx n Bq : Nat} {W0 w w' : World} {S : List Int} {K X : List Bool}
theorem SqR.le (h : SqR B0 W0 w hs hv n S K) : B0 ≤ w.heap.size := by have := h.b.size; have := h.sz; omega
theorem SqR.below (h : SqR B0 W0 w hs hv n S K) (hb : Below w.heap.size w w') : SqR B0 W0 w' hs hv n S K :=
  ⟨h.os.below hb, h.ov.below hb, h.b.trans (hb.mono h.le), h.sz, h.ne⟩
theorem SqR.setS (h : SqR B0 W0 w hs hv n S K) (i : Nat) (x : Int) : SqR B0 W0 (w.setCell ⟨hs, i, none⟩ (.int .i64 x)) hs hv n (S.set i x) K :=
  ⟨h.os.setI2 i x, h.ov.setOtherC (by simp [Value.ownBlock]; exact fun e => h.ne e.symm) i _, h.b.setCell (p := ⟨hs, i, none⟩) h.os.ge.1 _, h.sz, h.ne⟩
theorem SqR.setK (h : SqR B0 W0 w hs hv n S K) (i : Nat) (x : Bool) : SqR B0 W0 (w.setCell ⟨hv, i, none⟩ (.bool x)) hs hv n S (K.set i x) :=
  ⟨h.os.setOtherC (by simp [Value.ownBlock]; exact h.ne) i _, h.ov.setBo i x, h.b.setCell (p := ⟨hv, i, none⟩) h.ov.ge.1 _, h.sz, h.ne⟩
theorem SqR.setX (h : SqR B0 W0 w hs hv n S K) (h1 : hs ≠ hx) (h2 : hv ≠ hx) (h3 : B0 ≤ hx) (i : Nat) (u : Value) : SqR B0 W0 (w.setCell ⟨hx, i, none⟩ u) hs hv n S K :=
  ⟨h.os.setOtherC (by simp [Value.ownBlock]; exact h1) i _, h.ov.setOtherC (by simp [Value.ownBlock]; exact h2) i _, h.b.setCell (p := ⟨hx, i, none⟩) h3 _, h.sz, h.ne⟩
theorem SqR.cS (h : SqR B0 W0 w hs hv n S K) {i : Nat} (hi : i < n) : w.cell? ⟨hs, i, none⟩ = some (.int .i64 (S.getD i 0)) := by
  have hl := h.os.len eI_len (by decide)
  exact h.os.cellI2 (by rw [List.getElem?_eq_getElem (by omega)]; simp [List.getD, List.getElem?_eq_getElem (show i < S.length by omega)])
theorem SqR.cK (h : SqR B0 W0 w hs hv n S K) {i : Nat} (hi : i < n) : w.cell? ⟨hv, i, none⟩ = some (.bool (K.getD i false)) := by
  have hl := h.ov.len eBo_len (by decide)
  exact h.ov.cellBo (by rw [List.getElem?_eq_getElem (by omega)]; simp [List.getD, List.getElem?_eq_getElem (show i < K.length by omega)])
theorem SqR.fS (h : SqR B0 W0 w hs hv n S K) (i : Nat) : w.frozen? ⟨hs, i, none⟩ = false := World.ownsRow.frozenAt h.os i
theorem SqR.fK (h : SqR B0 W0 w hs hv n S K) (i : Nat) : w.frozen? ⟨hv, i, none⟩ = false := World.ownsRow.frozenAt h.ov i
theorem SqR.made {CS CB : Array Value} (hS : ∀ w : World, Ow eI 1 (w.alloc (.cells CS 2)) w.heap.size 2 (.slice (some ⟨w.heap.size, 0, none⟩) n n) n (List.replicate n 0)) (hK : ∀ w : World, Ow eBo 1 (w.alloc (.cells CB 4)) w.heap.size 4 (.slice (some ⟨w.heap.size, 0, none⟩) n n) n (List.replicate n false)) (w : World) :
    SqR w.heap.size w ((w.alloc (.cells CS 2)).alloc (.cells CB 4)) w.heap.size (w.heap.size + 1) n (List.replicate n 0) (List.replicate n false) := by
  have e1 : (w.alloc (.cells CS 2)).heap.size = w.heap.size + 1 := by simp
  have b1 : Below w.heap.size w (w.alloc (.cells CS 2)) := (Below.refl _ _).alloc (Nat.le_refl _) _
  have b2 : Below (w.alloc (.cells CS 2)).heap.size (w.alloc (.cells CS 2)) ((w.alloc (.cells CS 2)).alloc (.cells CB 4)) := (Below.refl _ _).alloc (Nat.le_refl _) _
  have h2 := hK (w.alloc (.cells CS 2))
  rw [e1] at h2
  exact ⟨(hS w).below b2, h2.mono (by omega), b1.trans (b2.mono (by omega)), rfl, by omega⟩
/-- the row of a round's new ones -/
theorem nx_cell (h : Ow eBo 1 w Bq 4 (.slice (some ⟨hx, 0, none⟩) n n) n X) {i : Nat} (hi : i < n) : w.cell? ⟨hx, i, none⟩ = some (.bool (X.getD i false)) := by
  have hl := h.len eBo_len (by decide)
  exact h.cellBo (by rw [List.getElem?_eq_getElem (by omega)]; simp [List.getD, List.getElem?_eq_getElem (show i < X.length by omega)])
theorem nx_set (h : Ow eBo 1 w Bq 4 (.slice (some ⟨hx, 0, none⟩) n n) n X) {g : Nat} (hg : hx ≠ g) (i : Nat) (u : Value) : Ow eBo 1 (w.setCell ⟨g, i, none⟩ u) Bq 4 (.slice (some ⟨hx, 0, none⟩) n n) n X := h.setOtherC (by simp [Value.ownBlock]; exact hg) i _
end
theorem Ow.sameBlk {α : Type} {enc : α → List Value} {k base e n c g : Nat} {w wx : World} {xs : List α} (h : Ow enc k w base e (.slice (some ⟨g, 0, none⟩) n c) n xs) (hx : wx.heap[g]? = w.heap[g]?) : Ow enc k wx base e (.slice (some ⟨g, 0, none⟩) n c) n xs := by
  have hg := h.ge.1
  refine ⟨h.1, ?_⟩
  rcases h.2 with ⟨hv, _⟩ | ⟨g', cap, cur, hv, _, hg', h1, h2, h3, h4⟩
  · cases hv
  · cases hv
    exact .inr ⟨g, c, cur, rfl, hg, hx.trans hg', h1, h2, h3, h4⟩
theorem Ow.blkI {w : World} {base e n c : Nat} {a : Option Addr} {xs : List Int} (h : Ow eI 1 w base e (.slice a n c) n xs) : ∃ g, base ≤ g ∧ (0 < n → a = some ⟨g, 0, none⟩ ∧ g < w.heap.size) := by
  by_cases h0 : 0 < n
  · obtain ⟨g, hg, h1, _⟩ := h.at_ h0
    subst hg
    exact ⟨g, h.ge.1, fun _ => ⟨rfl, h.ge.2⟩⟩
  · exact ⟨base, Nat.le_refl _, fun h => absurd h h0⟩
/-! the reference's round -/
section
variable {n : Nat} {S : List Int} {K : List Bool} {L : List Com} {j : Nat}
def nxK (n : Nat) (S : List Int) (K : List Bool) (L : List Com) (j : Nat) : List Bool := (List.range n).map fun i => if i < j then newK S K L i else false
theorem nxK_at (i : Nat) : (nxK n S K L j).getD i false = if i < n then (if i < j then newK S K L i else false) else false := getD_range _ n false i
theorem nxK_zero : nxK n S K L 0 = List.replicate n false := ext_getD false (by simp [nxK]) fun i hi => by
  rw [nxK_at]; simp [List.getD, List.getElem?_replicate]; split <;> rfl
theorem nxK_yes (hj : j < n) (h : newK S K L j = true) : (nxK n S K L j).set j true = nxK n S K L (j + 1) := ext_getD false (by simp [nxK]) fun i hi => by
  have hi : i < n := by simpa [nxK] using hi
  rw [getD_set _ _ _ _ _ (by simp [nxK]; exact hj), nxK_at, nxK_at, if_pos hi, if_pos hi]
  by_cases e : i = j
  · subst e; rw [if_pos rfl, if_pos (by omega), h]
  · rw [if_neg e]
    by_cases h2 : i < j
    · rw [if_pos h2, if_pos (by omega)]
    · rw [if_neg h2, if_neg (by omega)]
theorem nxK_no (h : newK S K L j = false) : nxK n S K L (j + 1) = nxK n S K L j := ext_getD false (by simp [nxK]) fun i hi => by
  have hi : i < n := by simpa [nxK] using hi
  rw [nxK_at, nxK_at, if_pos hi, if_pos hi]
  by_cases e : i = j
  · subst e; rw [if_pos (by omega), if_neg (by omega), h]
  · by_cases h2 : i < j
    · rw [if_pos h2, if_pos (by omega)]
    · rw [if_neg h2, if_neg (by omega)]
theorem nxK_known {i : Nat} (h : K.getD i false = true) : (nxK n S K L j).getD i false = false := by
  rw [nxK_at]
  have : newK S K L i = false := by unfold newK; rw [h]; rfl
  rw [this]
  split <;> (try split) <;> rfl
theorem nmA_zero (b : Int) : nmA S K L b 0 = [] := rfl
theorem nmA_succ (b : Int) (a : Nat) : nmA S K L b (a + 1) = nmA S K L b a ++ (if K.getD a false = true then (dfL L (a : Int) b).map (fun d => S.getD a 0 - d) else []) := by
  unfold nmA
  rw [List.range_succ, List.flatMap_append, List.flatMap_cons, List.flatMap_nil, List.append_nil]
theorem nmA_no {b : Int} {a : Nat} (h : K.getD a false = false) : nmA S K L b (a + 1) = nmA S K L b a := by
  rw [nmA_succ, h, if_neg (by decide), List.append_nil]
theorem nmA_yes {b : Int} {a : Nat} (h : K.getD a false = true) : nmA S K L b (a + 1) = nmA S K L b a ++ (dfL L (a : Int) b).map (fun d => S.getD a 0 - d) := by
  rw [nmA_succ, if_pos h]
theorem nmA_fin {j : Nat} (hL : ∀ x ∈ L, ComOk (n : Int) x) (h : K.getD j false = false) : (nmA S K L (j : Int) n).length = (nmI S K L (j : Int)).length ∧ medI (nmA S K L (j : Int) n) = medI (nmI S K L (j : Int)) ∧ ∀ y, y ∈ nmA S K L (j : Int) n → y ∈ nmI S K L (j : Int) := by
  have hp := nm_perm (S := S) (K := K) (b := (j : Int)) hL (by unfold kat; rw [show ((j : Int)).toNat = j by omega]; exact h) (by omega)
  exact ⟨hp.length_eq, medI_perm hp, fun y hy => hp.mem_iff.1 hy⟩
theorem map_next {f : Int → Int} {D xs : List Int} {i : Nat} {x : Int} (h : xs[i]? = some x) : (D ++ (xs.take i).map f) ++ [f x] = D ++ (xs.take (i + 1)).map f := by
  rw [List.take_add_one, h]
  simp
theorem mixK_self (hj : j < n) : (mixK n S K L j).getD j false = K.getD j false := by
  rw [mixK_at, if_pos hj, if_neg (by omega)]
end
theorem ap_keep {B2 : Nat} {w5 wV w9 : World} {gS g' M c9 : Nat} {v : Value} (hv : v.ownBlock ≠ some gS) (h1 : wV.heap[gS]? = w5.heap[gS]?) (h2 : gS < wV.heap.size) (hat : v.ownBlock = some g' ∨ wV.heap.size ≤ g') (hot : ∀ q, q < wV.heap.size → v.ownBlock ≠ some q → w9.heap[q]? = wV.heap[q]?) (hb : Below B2 wV w9) : w9.heap[gS]? = w5.heap[gS]? ∧ gS < w9.heap.size ∧ (Value.slice (some ⟨g', 0, none⟩) (M + 1) c9).ownBlock ≠ some gS := by
  refine ⟨(hot _ h2 hv).trans h1, by have := hb.size; omega, fun e => ?_⟩
  have e2 : g' = gS := by simpa [Value.ownBlock] using e
  rcases hat with h | h
  · exact hv (by rw [h, e2])
  · omega
set_option maxHeartbeats 16000000 in
theorem l05From_any (n : Nat) (L : List Com) (first : Int) (a : Option Addr) (m c : Nat) (w : World) (hok : ComsOk (n : Int) L) (h0 : 0 ≤ first) (h1 : first < n) (hl : L.length = m) (hr : Rd Com.enc 3 w a L) :
    Calls Try.prog 23 #[.int .i64 (n : Int), .slice a m c, .int .i64 first] w fun e w' => ∃ hs hv S K, e = .returned (.tuple #[.slice (some ⟨hs, 0, none⟩) n n, .slice (some ⟨hv, 0, none⟩) n n]) ∧ SqR w.heap.size w w' hs hv n S K ∧ FinQ n L first S K := by
  have hn1 := hok.n1
  have hn2 := hok.n2
  have hm60 := hok.l
  have hm2 : m ≤ 60 := by omega
  have HL := Lib.hid hl
  have HOK := Lib.hid hok
  have HR := Lib.hid hr
  have HDF : Hid (∀ x ∈ L, -2000 ≤ x.diff ∧ x.diff ≤ 2000) := Lib.hid fun x hx => ⟨(HOK.out.e x hx).d0, (HOK.out.e x hx).d1⟩
  obtain ⟨B, hB⟩ : ∃ B, w.heap.size = B := ⟨_, rfl⟩
  obtain ⟨CS, hmk, hown⟩ := makeRow n (by omega)
  obtain ⟨CB, hmkB, hownB⟩ := makeBo n (by omega)
  have hHT0 := SqR.made hown hownB w
  have HOB := Lib.hid hownB
  clear hl hr hok hown hownB
  rw [hB] at hHT0
  have HBW := Lib.hid hB
  go_enter Try.func23, Try.ntmps23
  go_upto_region 3 with (fail)
  obtain ⟨w0, hw0⟩ : ∃ z, (w.alloc (.cells CS 2)).alloc (.cells CB 4) = z := ⟨_, rfl⟩
  rw [hw0] at hHT0 ⊢
  clear hw0 hB hmk
  have j0 : first.toNat < n := by omega
  have cv : w0.cell? ⟨B + 1, first.toNat, none⟩ = some (.bool ((List.replicate n false).getD first.toNat false)) := hHT0.cK j0
  have fv : w0.frozen? ⟨B + 1, first.toNat, none⟩ = false := hHT0.fK _
  have HT1 := Lib.hid (hHT0.setK first.toNat true)
  have HR0 : Hid (rdC n L first 0 = (List.replicate n 0, (List.replicate n false).set first.toNat true)) := Lib.hid rfl
  have HZ := Lib.hid (RdI.zero (n := n) h0 h1)
  have HC1 : Hid (1 ≤ cntK n ((List.replicate n false).set first.toNat true)) := Lib.hid (cnt_first h1 h0 HZ.out)
  clear hHT0
  go_upto_region 4 with (fail)
  obtain ⟨w1, hw1⟩ : ∃ z, w0.setCell ⟨B + 1, first.toNat, none⟩ (.bool true) = z := ⟨_, rfl⟩
  rw [hw1] at HT1 ⊢
  clear hw1 cv fv
  go_wp2_with fail
  go_loopg [10] (n + 1) (fun gk av wr => ∃ (fl : Bool) (k : Nat) (S : List Int) (K : List Bool), av = .bool fl ∧ Hid (SqR B w wr B (B + 1) n S K) ∧ Hid (rdC n L first k = (S, K) ∧ k + 1 ≤ cntK n K ∧ (fl = false → hasNew n S K L = false)) ∧ Hid (gk = if fl = true then n + 1 - k else 0))
  case atStart => exact ⟨true, 0, _, _, rfl, HT1, Lib.hid ⟨HR0.out, HC1.out, fun h => by cases h⟩, Lib.hid (by simp)⟩
  case round =>
  obtain ⟨fl, k, S, K, rfl, HT, HQ, HG⟩ := hrel
  cases fl with
  | false =>
    have HF : Hid (FinQ n L first S K) := Lib.hid ⟨⟨k, by have := HQ.out.2.1; have := cnt_n n K; omega, HQ.out.1⟩, HQ.out.2.2 rfl⟩
    clear hmkB
    go_wp2_with fail
    go_ret2
    exact ⟨B, B + 1, rfl, S, K, by rw [HBW.out]; exact HT.out, HF.out⟩
  | true =>
  have HI : Hid (RdI n first k S K) := Lib.hid (by have := rdC_ok HOK.out.e h0 h1 k; rw [HQ.out.1] at this; exact this)
  have hkn : k + 1 ≤ n := by have := HQ.out.2.1; have := cnt_n n K; omega
  obtain ⟨wA, hwA⟩ : ∃ wx, wx = wr := ⟨_, rfl⟩
  subst hwA
  obtain ⟨hx, hhx⟩ : ∃ g, wA.heap.size = g := ⟨_, rfl⟩
  have hox := HOB.out wA
  rw [hhx] at hox
  have hq1 : B + 1 < hx := by rw [← hhx]; exact HT.out.ov.ge.2
  have hbx : Below wA.heap.size wA (wA.alloc (.cells CB 4)) := (Below.refl _ _).alloc (Nat.le_refl _) _
  go_upto_region 8 with (fail)
  obtain ⟨w3, hw3⟩ : ∃ z, wA.alloc (.cells CB 4) = z := ⟨_, rfl⟩
  rw [hw3] at hox hbx ⊢
  have HM0 : Hid (SqR B w w3 B (B + 1) n (mixS n S K L 0) K) := Lib.hid (by rw [mixS_zero HI.out.ls]; exact HT.out.below hbx)
  have HX0 : Hid (Ow eBo 1 w3 hx 4 (.slice (some ⟨hx, 0, none⟩) n n) n (nxK n S K L 0)) := Lib.hid (by rw [nxK_zero]; exact hox)
  clear hox hbx hw3 hhx HT
  go_wp2_with fail
  go_loopw [10, 12] (fun av iv wr => ∃ j : Nat, j ≤ n ∧ iv = .int .i64 j ∧ av = .bool (newJ S K L j) ∧ Hid (SqR B w wr B (B + 1) n (mixS n S K L j) K) ∧ Hid (Ow eBo 1 wr hx 4 (.slice (some ⟨hx, 0, none⟩) n n) n (nxK n S K L j))) (fun _ iv _ => n - (intOf iv).toNat)
  case atStart => exact ⟨0, Nat.zero_le _, rfl, rfl, HM0, HX0⟩
  case round =>
    obtain ⟨j, hj, rfl, rfl, HM, HX⟩ := hrel
    obtain ⟨wB, hwB⟩ : ∃ wx, wx = wr := ⟨_, rfl⟩
    subst hwB
    by_cases hlt : j < n
    case neg =>
      obtain rfl : j = n := by omega
      have HM1 : Hid (SqR B w wB B (B + 1) j (stS j S K L) (mixK j S K L 0)) := Lib.hid (by rw [mixK_zero HI.out.lk, ← mixS_all]; exact HM.out)
      clear HM
      go_wp2_with fail
      go_loopw [17] (fun iv wr => ∃ i : Nat, i ≤ j ∧ iv = .int .i64 i ∧ Hid (SqR B w wr B (B + 1) j (stS j S K L) (mixK j S K L i)) ∧ Hid (Ow eBo 1 wr hx 4 (.slice (some ⟨hx, 0, none⟩) j j) j (nxK j S K L j))) (fun iv _ => j - (intOf iv).toNat)
      case atStart => exact ⟨0, Nat.zero_le _, rfl, HM1, HX⟩
      case round =>
        obtain ⟨i, hi, rfl, HMI, HXI⟩ := hrel
        obtain ⟨wE, hwE⟩ : ∃ wx, wx = wr := ⟨_, rfl⟩
        subst hwE
        by_cases hil : i < j
        case neg =>
          obtain rfl : i = j := by omega
          have HMS : Hid (SqR B w wE B (B + 1) i (stS i S K L) (stK i S K L)) := Lib.hid (by rw [← mixK_all]; exact HMI.out)
          have HRD : Hid (rdC i L first (k + 1) = (stS i S K L, stK i S K L)) := Lib.hid (by show (stS i (rdC i L first k).1 (rdC i L first k).2 L, stK i (rdC i L first k).1 (rdC i L first k).2 L) = _; rw [HQ.out.1])
          cases hN : newJ S K L i with
          | true =>
            have HQ2 : Hid (rdC i L first (k + 1) = (stS i S K L, stK i S K L) ∧ k + 1 + 1 ≤ cntK i (stK i S K L) ∧ ((true : Bool) = false → hasNew i (stS i S K L) (stK i S K L) L = false)) := Lib.hid ⟨HRD.out, by have h8 := new_cnt (n := i) (S := S) (K := K) (L := L) hN; have h9 := HQ.out.2.1; omega, fun h => by cases h⟩
            have HGE : Hid (i + 1 - (k + 1) = if (true : Bool) = true then i + 1 - (k + 1) else 0) := Lib.hid (by simp)
            clear hN
            go_wp2_with fail
            go_roundg (i + 1 - (k + 1))
            case rel => exact ⟨true, k + 1, _, _, rfl, HMS, Lib.hid ⟨HQ2.out.1, HQ2.out.2.1, fun h => by cases h⟩, HGE⟩
            case measure => have := HG.out; simp at this; omega
          | false =>
            obtain ⟨e1, e2⟩ := same_round HI.out.ls HI.out.lk hN
            rw [e1, e2] at HMS
            have HNF : Hid (hasNew i S K L = false) := Lib.hid hN
            have HGE : Hid (0 = if (false : Bool) = true then i + 1 - k else 0) := Lib.hid (by simp)
            clear hN e1 e2
            go_wp2_with fail
            go_roundg 0
            case rel => exact ⟨false, k, _, _, rfl, HMS, Lib.hid ⟨HQ.out.1, HQ.out.2.1, fun _ => HNF.out⟩, HGE⟩
            case measure => have := HG.out; simp at this; omega
        have ck : wE.cell? ⟨B + 1, i, none⟩ = some (.bool (K.getD i false)) := by rw [← mixK_self (S := S) (K := K) (L := L) hil]; exact HMI.out.cK hil
        have fk : wE.frozen? ⟨B + 1, i, none⟩ = false := HMI.out.fK i
        have cx : wE.cell? ⟨hx, i, none⟩ = some (.bool (newK S K L i)) := by have := nx_cell HXI.out hil; rw [nxK_at, if_pos hil, if_pos hil] at this; exact this
        have i1 : (0 : Int) ≤ (i : Nat) := by omega
        have i2 : ((i : Nat) : Int) < (j : Nat) := by omega
        cases hki : K.getD i false with
        | true =>
          have HU : Hid (upK S K L i = true) := Lib.hid (by unfold upK; rw [hki]; rfl)
          have HM2 : Hid (SqR B w (wE.setCell ⟨B + 1, i, none⟩ (.bool true)) B (B + 1) j (stS j S K L) (mixK j S K L (i + 1))) := Lib.hid (by rw [← mixK_yes hil, HU.out]; exact HMI.out.setK i true)
          have HX2 := Lib.hid (nx_set HXI.out (show hx ≠ B + 1 by omega) i (.bool true))
          rw [hki] at ck
          clear hki
          go_wp2_with fail
          go_roundw
          case rel => exact ⟨i + 1, by omega, by go_num, HM2, HX2⟩
          case measure => simp [intOf]; omega
        | false =>
          have HU : Hid (upK S K L i = newK S K L i) := Lib.hid (by unfold upK; rw [hki]; rfl)
          have HM2 : Hid (SqR B w (wE.setCell ⟨B + 1, i, none⟩ (.bool (newK S K L i))) B (B + 1) j (stS j S K L) (mixK j S K L (i + 1))) := Lib.hid (by rw [← mixK_yes hil, HU.out]; exact HMI.out.setK i _)
          have HX2 := Lib.hid (nx_set HXI.out (show hx ≠ B + 1 by omega) i (.bool (newK S K L i)))
          rw [hki] at ck
          obtain ⟨nb, hnb⟩ : ∃ z, newK S K L i = z := ⟨_, rfl⟩
          rw [hnb] at cx HM2 HX2
          clear hki hnb HU
          go_wp2_with fail
          go_roundw
          case rel => exact ⟨i + 1, by omega, by go_num, HM2, HX2⟩
          case measure => simp [intOf]; omega
    have cbk : wB.cell? ⟨B + 1, j, none⟩ = some (.bool (K.getD j false)) := HM.out.cK hlt
    have j1 : (0 : Int) ≤ (j : Nat) := by omega
    have j2 : ((j : Nat) : Int) < (n : Nat) := by omega
    cases hkj : K.getD j false with
    | true =>
      obtain ⟨u1, u2⟩ := up_known (S := S) (L := L) hkj
      rw [hkj] at cbk
      have HM2 : Hid (SqR B w wB B (B + 1) n (mixS n S K L (j + 1)) K) := Lib.hid (by rw [mixS_no u1]; exact HM.out)
      have HX2 : Hid (Ow eBo 1 wB hx 4 (.slice (some ⟨hx, 0, none⟩) n n) n (nxK n S K L (j + 1))) := Lib.hid (by rw [nxK_no u2]; exact HX.out)
      have HNJ : Hid (newJ S K L (j + 1) = newJ S K L j) := Lib.hid (by rw [newJ_succ, u2, Bool.or_false])
      clear u1 u2 hkj
      go_wp2_with fail
      go_roundw
      case rel => exact ⟨j + 1, by omega, by go_num, by rw [HNJ.out], HM2, HX2⟩
      case measure => simp [intOf]; omega
    | false =>
    rw [hkj] at cbk
    obtain ⟨B2, hB2⟩ : ∃ q, wB.heap.size = q := ⟨_, rfl⟩
    have hob := Ow.built eI 1 wB 2
    have hbb := below_built wB 2
    have HKJ := Lib.hid hkj
    have HFX : Hid (∀ wq, Below wB.heap.size wB wq → SqR B w wq B (B + 1) n (mixS n S K L j) K ∧ Ow eBo 1 wq hx 4 (.slice (some ⟨hx, 0, none⟩) n n) n (nxK n S K L j)) := Lib.hid fun wq hq => ⟨HM.out.below hq, HX.out.below hq⟩
    have HRB : Hid (Rd Com.enc 3 wB a L) := Lib.hid (HR.out.below (by have h9 := HM.out.b; rw [← HBW.out] at h9; exact h9))
    rw [hB2] at hob hbb HFX
    have HBB := Lib.hid hB2
    have hBq : hx < B2 := by rw [← hB2]; exact HX.out.ge.2
    go_upto_region 13 with (fail)
    obtain ⟨w4, hw4⟩ : ∃ z, wB.alloc (.cells #[] 2) = z := ⟨_, rfl⟩
    rw [hw4] at hob hbb ⊢
    have HOD0 : Hid (Ow eI 1 w4 B2 2 (.slice (some ⟨B2, 0, none⟩) 0 0) 0 (nmA S K L (j : Int) 0)) := Lib.hid hob
    have HBD0 := Lib.hid hbb
    clear hob hbb hw4 cbk hkj hB2
    go_wp2_with fail
    go_loopw [13, 14] (fun dv iv wr => ∃ (p N : Nat) (aD : Option Addr) (cD : Nat), p ≤ n ∧ N ≤ 60 * p ∧ iv = .int .i64 p ∧ dv = .slice aD N cD ∧ Hid (Ow eI 1 wr B2 2 (.slice aD N cD) N (nmA S K L (j : Int) p)) ∧ Hid (Below B2 wB wr)) (fun _ iv _ => n - (intOf iv).toNat)
    case atStart => exact ⟨0, 0, _, _, Nat.zero_le _, Nat.zero_le _, rfl, rfl, HOD0, HBD0⟩
    case round =>
      obtain ⟨p, N, aD, cD, hp, hN, rfl, rfl, HD, HBD⟩ := hrel
      obtain ⟨wC, hwC⟩ : ∃ wx, wx = wr := ⟨_, rfl⟩
      subst hwC
      have hszC : B2 ≤ wC.heap.size := by have := HBD.out.size; have := HBB.out; omega
      by_cases hpl : p < n
      case neg =>
        obtain rfl : p = n := by omega
        obtain ⟨f1, f2, f3⟩ := nmA_fin (S := S) (K := K) (j := j) HOK.out.e HKJ.out
        have hlD : (nmA S K L (j : Int) p).length = N := HD.out.len eI_len (by decide)
        have hml := nmI_len S K L (j : Int)
        by_cases hz : N = 0
        · obtain ⟨u1, u2⟩ := up_none (S := S) (K := K) (L := L) (j := j) (List.eq_nil_of_length_eq_zero (by omega))
          obtain ⟨t5, x5⟩ := HFX.out wC HBD.out
          have HM2 : Hid (SqR B w wC B (B + 1) p (mixS p S K L (j + 1)) K) := Lib.hid (by rw [mixS_no u1]; exact t5)
          have HX2 : Hid (Ow eBo 1 wC hx 4 (.slice (some ⟨hx, 0, none⟩) p p) p (nxK p S K L (j + 1))) := Lib.hid (by rw [nxK_no u2]; exact x5)
          have HNJ : Hid (newJ S K L (j + 1) = newJ S K L j) := Lib.hid (by rw [newJ_succ, u2, Bool.or_false])
          clear u1 u2 f1 f2 f3 hlD t5 x5
          subst hz
          go_wp2_with fail
          go_roundw
          case rel => exact ⟨j + 1, by omega, by go_num, by rw [HNJ.out], HM2, HX2⟩
          case measure => simp [intOf]; omega
        · obtain ⟨u1, u2, u3⟩ := up_some (S := S) (K := K) (L := L) (j := j) HKJ.out (fun e => hz (by rw [← hlD, f1, e]; rfl))
          have HMD : Hid (∀ wq, Below wC.heap.size wC wq → Calls Try.prog 36 #[.slice aD N cD] wq fun e w' => e = .returned (.int .i64 (medI (nmI S K L (j : Int)))) ∧ Below wq.heap.size wq w') := Lib.hid fun wq hq => by
            rw [← f2]
            exact l02Median_any _ _ N cD wq (by omega) (by omega) (fun y hy => by have := nmI_bd (k := k) HOK.out.e HI.out.bd y (f3 y hy); omega) hlD ((HD.out.rd eI_len (by decide)).below hq)
          obtain ⟨md, hmd⟩ : ∃ z, medI (nmI S K L (j : Int)) = z := ⟨_, rfl⟩
          rw [hmd] at HMD u1
          have HU : Hid (upS S K L j = md ∧ newK S K L j = true ∧ newJ S K L (j + 1) = true) := Lib.hid ⟨u1, u2, by rw [newJ_succ, u2, Bool.or_true]⟩
          have dz : (0 : Int) < (N : Int) := by omega
          clear u1 u2 u3 hlD hml hmd hz f1 f2 f3
          go_wp2_with fail
          refine (HMD.out _ (Below.refl _ _)).mono ?_
          rintro e w6 ⟨rfl, hb6⟩
          obtain ⟨t6, x6⟩ := HFX.out w6 (HBD.out.trans (hb6.mono hszC))
          have x1 := t6.cS hlt
          have x2 := t6.fS j
          have t7 := t6.setS j md
          have x7 := nx_set x6 (show hx ≠ B by omega) j (.int .i64 md)
          have x3 := nx_cell x7 hlt
          have x4 : (w6.setCell ⟨B, j, none⟩ (.int .i64 md)).frozen? ⟨hx, j, none⟩ = false := World.ownsRow.frozenAt x7 j
          have HM2 : Hid (SqR B w ((w6.setCell ⟨B, j, none⟩ (.int .i64 md)).setCell ⟨hx, j, none⟩ (.bool true)) B (B + 1) p (mixS p S K L (j + 1)) K) := Lib.hid (by rw [← mixS_yes hlt, HU.out.1]; exact t7.setX (by omega) (by omega) (by omega) j _)
          have HX2 : Hid (Ow eBo 1 ((w6.setCell ⟨B, j, none⟩ (.int .i64 md)).setCell ⟨hx, j, none⟩ (.bool true)) hx 4 (.slice (some ⟨hx, 0, none⟩) p p) p (nxK p S K L (j + 1))) := Lib.hid (by rw [← nxK_yes hlt HU.out.2.1]; exact x7.setBo j true)
          clear t6 x6 t7 x7 hb6
          go_wp2_with fail
          go_roundw
          case rel => exact ⟨j + 1, by omega, by go_num, by rw [HU.out.2.2], HM2, HX2⟩
          case measure => simp [intOf]; omega
      have ckp : wC.cell? ⟨B + 1, p, none⟩ = some (.bool (K.getD p false)) := (HFX.out wC HBD.out).1.cK hpl
      have p1 : (0 : Int) ≤ (p : Nat) := by omega
      have p2 : ((p : Nat) : Int) < (n : Nat) := by omega
      cases hkp : K.getD p false with
      | false =>
        have HE := Lib.hid (nmA_no (S := S) (L := L) (b := (j : Int)) hkp)
        rw [hkp] at ckp
        clear hkp
        go_wp2_with fail
        go_roundw
        case rel => exact ⟨p + 1, N, _, _, by omega, by omega, by go_num, rfl, by rw [HE.out]; exact HD, HBD⟩
        case measure => simp [intOf]; omega
      | true =>
        have cxp : wC.cell? ⟨hx, p, none⟩ = some (.bool false) := by have := nx_cell (HFX.out wC HBD.out).2 hpl; rw [nxK_known hkp] at this; exact this
        have hpj : (p : Int) ≠ (j : Int) := fun e => by
          have e2 : p = j := by omega
          subst e2
          exact absurd (hkp.symm.trans HKJ.out) (by decide)
        have HE := Lib.hid (nmA_yes (S := S) (L := L) (b := (j : Int)) hkp)
        have hsv : (mixS n S K L j).getD p 0 = S.getD p 0 := mixS_known hpl hkp
        obtain ⟨sv, hsv2⟩ : ∃ z, S.getD p 0 = z := ⟨_, rfl⟩
        have hsb : -80000 ≤ sv ∧ sv ≤ 80000 := by have := HI.out.bd p; rw [hsv2] at this; omega
        rw [hsv2] at HE
        have HSV : Hid (∀ wq, Below B2 wB wq → wq.cell? ⟨B, p, none⟩ = some (.int .i64 sv)) := Lib.hid fun wq hq => by have := (HFX.out wq hq).1.cS hpl; rw [hsv, hsv2] at this; exact this
        rw [hkp] at ckp
        clear hkp hsv hsv2
        have HLB := Lib.hid (dfL_bd (a := (p : Int)) (b := (j : Int)) HOK.out)
        have HLL := Lib.hid (dfL_len (n := (n : Int)) (L := L) hpj)
        have HRC : Hid (Rd Com.enc 3 wC a L) := Lib.hid (HRB.out.below (by rw [HBB.out]; exact HBD.out))
        have HCD := Lib.hid (l05Diffs_any L (p : Int) (j : Int) a m c wC (by omega) hpj HL.out HDF.out HRC.out)
        obtain ⟨DF, hDF⟩ : ∃ z, dfL L (p : Int) (j : Int) = z := ⟨_, rfl⟩
        obtain ⟨D0, hD0⟩ : ∃ z, nmA S K L (j : Int) p = z := ⟨_, rfl⟩
        rw [hDF] at HE HLB HLL HCD
        rw [hD0] at HE HD
        clear hDF hD0
        go_wp2_with fail
        refine HCD.out.mono ?_
        rintro e w5 ⟨aS, nS, cS, rfl, hnS, hoS, hbS⟩
        obtain ⟨gS, hgS1, hgS2⟩ := hoS.blkI
        have hSl := hoS.len eI_len (by decide)
        have HD5 : Hid (Ow eI 1 w5 B2 2 (.slice aD N cD) N (D0 ++ (DF.take 0).map (fun d => sv - d))) := Lib.hid (by rw [List.take_zero, List.map_nil, List.append_nil]; exact HD.out.below hbS)
        have HBD5 := Lib.hid (HBD.out.trans (hbS.mono hszC))
        have HOS := Lib.hid hoS
        have HGS : Hid (0 < nS → aS = some ⟨gS, 0, none⟩) := Lib.hid fun h => (hgS2 h).1
        have HSI : Hid (0 < nS → w5.heap[gS]? = w5.heap[gS]? ∧ gS < w5.heap.size ∧ (Value.slice aD N cD).ownBlock ≠ some gS) := Lib.hid fun h => ⟨rfl, (hgS2 h).2, fun e => by have := (HD.out.lt gS e).2; omega⟩
        clear hgS2 hoS hbS hgS1 ckp cxp
        go_wp2_with fail
        go_loopw [13, 16] (fun dv iv wr => ∃ (i M : Nat) (aE : Option Addr) (cE : Nat), i ≤ nS ∧ M ≤ N + i ∧ iv = .int .i64 i ∧ dv = .slice aE M cE ∧ Hid (Ow eI 1 wr B2 2 (.slice aE M cE) M (D0 ++ (DF.take i).map (fun d => sv - d))) ∧ Hid (Below B2 wB wr) ∧ Hid (0 < nS → wr.heap[gS]? = w5.heap[gS]? ∧ gS < wr.heap.size ∧ (Value.slice aE M cE).ownBlock ≠ some gS)) (fun _ iv _ => nS - (intOf iv).toNat)
        case atStart => exact ⟨0, N, _, _, Nat.zero_le _, by omega, rfl, rfl, HD5, HBD5, Lib.hid fun h => ⟨rfl, (HSI.out h).2.1, (HSI.out h).2.2⟩⟩
        case round =>
          obtain ⟨i, M, aE, cE, hi, hM, rfl, rfl, HO, HBO, HSO⟩ := hrel
          obtain ⟨wD, hwD⟩ : ∃ wx, wx = wr := ⟨_, rfl⟩
          subst hwD
          by_cases hil : i < nS
          case neg =>
            obtain rfl : i = nS := by omega
            have HO2 : Hid (Ow eI 1 wD B2 2 (.slice aE M cE) M (nmA S K L (j : Int) (p + 1))) := Lib.hid (by rw [HE.out]; have h8 := HO.out; rw [List.take_of_length_le (by omega)] at h8; exact h8)
            have hM2 : M ≤ 60 * (p + 1) := by omega
            go_wp2_with fail
            go_roundw
            case rel => exact ⟨p + 1, M, _, _, by omega, hM2, by go_num, rfl, HO2, HBO⟩
            case measure => simp [intOf]; omega
          obtain ⟨hbq, hlq, hnq⟩ := HSO.out (by omega)
          have hab := HGS.out (by omega)
          subst hab
          have hoS2 := HOS.out.sameBlk hbq
          obtain ⟨x, hx1⟩ : ∃ x, DF[i]? = some x := ⟨_, List.getElem?_eq_getElem (by omega)⟩
          have hxb := HLB.out x (List.mem_of_getElem? hx1)
          have cs1 : wD.cell? ⟨B, p, none⟩ = some (.int .i64 sv) := HSV.out wD HBO.out
          have cs2 : wD.cell? ⟨gS, i, none⟩ = some (.int .i64 x) := hoS2.cellI2 hx1
          have ds1 : wD.drew.cell? ⟨B, p, none⟩ = some (.int .i64 sv) := cs1
          have ds2 : wD.drew.cell? ⟨gS, i, none⟩ = some (.int .i64 x) := cs2
          obtain ⟨X, hX⟩ : ∃ X, sv - x = X := ⟨_, rfl⟩
          have iw : IntKind.i64.wrap (sv - x) = X := (IntWalk.i64_in _ (by omega)).trans hX
          have HEX : Hid ((D0 ++ (DF.take i).map (fun d => sv - d)) ++ [X] = D0 ++ (DF.take (i + 1)).map (fun d => sv - d)) := Lib.hid (by rw [← hX]; exact map_next (f := fun d => sv - d) hx1)
          have hbV : Below wD.heap.size wD (wD.alloc (.cells #[.int .i64 X] 2)).drew := ((Below.refl _ _).alloc (Nat.le_refl _) _).drew
          have HXV := Lib.hid (HO.out.below hbV)
          have hcV : (wD.alloc (.cells #[.int .i64 X] 2)).drew.cell? ⟨wD.heap.size, 0, none⟩ = some (.int .i64 X) := cell_mn wD _ _
          have hszD : B2 ≤ wD.heap.size := by have := HBO.out.size; have := HBB.out; omega
          have hszV : B2 ≤ (wD.alloc (.cells #[.int .i64 X] 2)).drew.heap.size := Nat.le_trans hszD hbV.size
          have h63 : M + 1 ≤ maxLen := by unfold maxLen; omega
          have hby : (M + 1) * 8 ≤ 140737488355328 := by omega
          have HBV := Lib.hid (HBO.out.trans (hbV.mono hszD))
          have HGV : Hid ((wD.alloc (.cells #[.int .i64 X] 2)).drew.heap[gS]? = w5.heap[gS]? ∧ gS < (wD.alloc (.cells #[.int .i64 X] 2)).drew.heap.size ∧ (Value.slice aE M cE).ownBlock ≠ some gS) := Lib.hid ⟨(hbV.block _ hlq).trans hbq, by have := hbV.size; omega, hnq⟩
          have i1 : (0 : Int) ≤ (i : Nat) := by omega
          have i2 : ((i : Nat) : Int) < (nS : Nat) := by omega
          clear hX hbV hbq hlq hnq hoS2 hx1
          go_upto_region 21 with (fail)
          go_region_law (first | (go_loud (refine step_ap1 _ rfl (.tmp 64) (.tmp 74) 27 rfl 2 Try.underlying27 infoI64co B2 _ M _ rfl HXV.out X _ rfl hcV h63 hby hszV _ HEX ?_); intro a9 c9 w9 ho9 hb9 hat9 hot9; have HO9 := Lib.hid ho9; have HB9 := Lib.hid (HBV.out.trans hb9); have HS9 : Hid (0 < nS → w9.heap[gS]? = w5.heap[gS]? ∧ gS < w9.heap.size ∧ (Value.slice (some ⟨a9, 0, none⟩) (M + 1) c9).ownBlock ≠ some gS) := Lib.hid (fun _ => ap_keep HGV.out.2.2 HGV.out.1 HGV.out.2.1 hat9 hot9 hb9); clear ho9 hb9 hat9 hot9) | fail)
          all_goals
            go_wp2_with fail
            go_roundw
            case rel => exact ⟨i + 1, M + 1, _, _, by omega, by omega, by go_num, rfl, HO9, HB9, HS9⟩
            case measure => simp [intOf]; omega
end Go.Proofs.Ytdcldiadjdpaeaa
