/-
  For all bytes from which links are drawn the law FnGroups returns true and leaves its arguments as they were. No condition.
-/
import Derived.Test.YtnioecigjpifnaaDoorLk7
import Derived.Test.YtnioecigjpifnaaDoorRis
import Derived.Test.YtnioecigjpifnaaDoorA2
import Derived.Test.YtnioecigjpifnaaDoorRows
import Derived.Test.YtnioecigjpifnaaDoorTie
import Derived.Test.YtnioecigjpifnaaDoorCards
import Derived.LaidMore
import Derived.Deep.CutRange
import Derived.Deep.Light
import Derived.Stop.LaidErr
import Derived.Stop.Joined
import Derived.SevenTiedAt
import Derived.Lib.LaidTab
import Derived.ProofKit
import Derived.OpenShut
import Derived.ShutString
import Derived.ChangeOld
namespace Go.Proofs.YtnioecigjpifnaaDoor
open Go.RowKit

namespace fnGroups
set_option maxRecDepth 100000
set_option linter.unusedVariables false
theorem ne_formsG (s : ByteArray) (h : s ≠ ⟨#[]⟩) : (s.toList == ([] : List UInt8)) = false ∧ s.toList.isEmpty = false ∧ ¬ s.toList = [] := by
  have h0 : ¬ s.toList = [] := by
    rw [ByteArray.toList_eq]
    intro e
    apply h
    apply ByteArray.ext
    have h2 : s.data.toList = [] := e
    simpa using h2
  refine ⟨by rw [beq_eq_false_iff_ne]; exact h0, ?_, h0⟩
  cases hs : s.toList with
  | nil => exact absurd hs h0
  | cons a l => rfl
theorem getD_set (P : List Int) (i q : Nat) (v : Int) (hi : i < P.length) : (P.set i v).getD q 0 = if q = i then v else P.getD q 0 := by
  unfold List.getD
  rw [List.getElem?_set]
  by_cases c : i = q
  · subst c; rw [if_pos rfl, if_pos rfl, if_pos hi]; rfl
  · rw [if_neg c, if_neg fun e => c e.symm]
theorem count_take (g : List Int) (j : Nat) (x q : Int) (hx : g[j]? = some x) : (g.take (j + 1)).count q = (g.take j).count q + if x = q then 1 else 0 := by
  rw [take_sn hx, List.count_append, List.count_cons, List.count_nil]
  by_cases c : x = q
  · rw [if_pos c, if_pos (by simpa using c)]
  · rw [if_neg c, if_neg (by simpa using c)]
/-- the places so far: k sets, and j stars of the next one -/
def PlI (st : Nat) (G : List (List Int)) (g : List Int) (k j : Nat) (P : List Int) : Prop := ∀ q : Nat, q < st → P.getD q 0 = plSum 0 (G.take k) q + ((k : Int) + 1) * ((g.take j).count (q : Int) : Int)
theorem PlI.zero (st : Nat) (G : List (List Int)) (g : List Int) (k : Nat) {P : List Int} (h : ∀ q : Nat, q < st → P.getD q 0 = plSum 0 (G.take k) q) : PlI st G g k 0 P := fun q hq => by rw [h q hq]; simp
theorem PlI.step {st : Nat} {G : List (List Int)} {g : List Int} {k j : Nat} {P : List Int} {x y : Int} (h : PlI st G g k j P) (hl : P.length = st) (hx : g[j]? = some x) (h0 : 0 ≤ x) (h1 : x < (st : Int)) (hy : P[x.toNat]? = some y) : PlI st G g k (j + 1) (P.set x.toNat (y + ((k : Int) + 1))) := fun q hq => by
  rw [getD_set _ _ _ _ (by omega), count_take g j x q hx]
  have hq2 := h q hq
  by_cases c : q = x.toNat
  · subst c
    rw [if_pos rfl, if_pos (by omega)]
    have e : P.getD x.toNat 0 = y := by simp [List.getD, hy]
    rw [e] at hq2
    rw [hq2, Int.natCast_add, Int.mul_add]; omega
  · rw [if_neg c, if_neg (by omega), hq2, Nat.add_zero]
theorem PlI.done {st : Nat} {G : List (List Int)} {g : List Int} {k : Nat} {P : List Int} (h : PlI st G g k g.length P) (hg : G[k]? = some g) : ∀ q : Nat, q < st → P.getD q 0 = plSum 0 (G.take (k + 1)) q := fun q hq => by
  have hk := (List.getElem?_eq_some_iff.1 hg).1
  rw [h q hq, take_sn hg, plSum_snoc, List.take_of_length_le (Nat.le_refl _), List.length_take, Nat.min_eq_left (by omega), Nat.zero_add]
def smK (G : List (List Int)) (k : Nat) : Nat := ((G.take k).map List.length).sum
theorem smK_snoc {G : List (List Int)} {k : Nat} {g : List Int} (hg : G[k]? = some g) : smK G (k + 1) = smK G k + g.length := by
  unfold smK; rw [take_sn hg, List.map_append, List.sum_append]; simp
theorem sum_take_le (l : List Nat) : ∀ k, (l.take k).sum ≤ l.sum := by
  induction l with
  | nil => intro k; simp
  | cons x l ih =>
    intro k
    cases k with
    | zero => simp
    | succ k => have := ih k; simp only [List.take_succ_cons, List.sum_cons]; omega
theorem smK_le (G : List (List Int)) (k : Nat) : smK G k ≤ (G.map List.length).sum := by
  unfold smK; rw [List.map_take]; exact sum_take_le _ k
theorem PlI.bd {st : Nat} {G : List (List Int)} {g : List Int} {k j : Nat} {P : List Int} {q : Nat} (h : PlI st G g k j P) (hq : q < st) (hk : k ≤ 5) (hg : g.length ≤ 5) (hs : (G.map List.length).sum ≤ 5) : 0 ≤ P.getD q 0 ∧ P.getD q 0 ≤ 100 := by
  rw [h q hq]
  have h1 := plSum_bd q (G.take k) 0
  have h2 : ((G.take k).map List.length).sum ≤ 5 := Nat.le_trans (smK_le G k) hs
  have h3 : (G.take k).length ≤ 5 := by rw [List.length_take]; omega
  have h4 : (g.take j).count (q : Int) ≤ 5 := Nat.le_trans List.count_le_length (by rw [List.length_take]; omega)
  have h5 : (((0 : Nat) : Int) + ((G.take k).length : Int)) * ((((G.take k).map List.length).sum : Nat) : Int) ≤ 5 * 5 := Int.mul_le_mul (by omega) (by omega) (by omega) (by omega)
  have h6 : ((k : Int) + 1) * (((g.take j).count (q : Int) : Nat) : Int) ≤ 6 * 5 := Int.mul_le_mul (by omega) (by omega) (by omega) (by omega)
  have h7 : 0 ≤ ((k : Int) + 1) * (((g.take j).count (q : Int) : Nat) : Int) := Int.mul_nonneg (by omega) (by omega)
  omega

set_option maxHeartbeats 4000000 in
theorem law_walk (a0 : Option Addr) (n0 c0 : Nat) (x0 : List Int) (a1 : Option Addr) (n1 c1 : Nat) (x1 : List Int) (w : World) (l0 : x0.length = n0) (m0 : n0 ≤ maxLen) (o0 : ∀ v ∈ x0, Byt v) (w0 : Rd eB 1 w a0 x0) (l1 : x1.length = n1) (m1 : n1 ≤ maxLen) (o1 : ∀ v ∈ x1, Byt v) (w1 : Rd eB 1 w a1 x1) (hT : TabOk w) :
    Calls Tryd.prog 3 #[.slice a0 n0 c0, .slice a1 n1 c1] w fun e w' => e = .returned (.bool true) ∧ Below w.heap.size w w' := by
  by_cases hlen : n0 ≤ 3000 ∧ n1 ≤ 3000
  case neg =>
    go_enter Tryd.func3, Tryd.ntmps3
    go_wp2_with fail
    refine (a2Long_yes a0 a1 n0 n1 c0 c1 _ hlen m0 m1).mono ?_
    rintro e wv0 ⟨rfl, rfl⟩
    go_wp2_with fail
    go_ret
    exact ⟨rfl, Below.refl _ _⟩
  obtain ⟨hn0, hn1⟩ := hlen
  have HL0 := Lib.hid l0
  have HL1 := Lib.hid l1
  have HO0 := Lib.hid o0
  have HO1 := Lib.hid o1
  have HTAB := Lib.hid hT
  have HW0 := Lib.hid w0
  have HW1 := Lib.hid w1
  clear l0 l1 o0 o1 hT m0 m1 w0 w1
  go_enter Tryd.func3, Tryd.ntmps3
  go_wp2_with fail
  refine (a2Long_any a0 a1 n0 n1 c0 c1 _ hn0 hn1).mono ?_
  rintro e wv0 ⟨rfl, rfl⟩
  go_wp2_with fail
  refine (A2Links_any a0 n0 c0 x0 _ HL0.out HO0.out HW0.out).mono ?_
  rintro e w4 ⟨st, aL, kL, cL, L, rfl, hst1, hst5, hk7, hLD, hLN, hrL, hb4⟩
  have HLD := Lib.hid hLD
  have HLN := Lib.hid hLN
  have HLO : Hid (∀ l ∈ L, LkOk st l) := Lib.hid fun l hl => (hLD l hl).1
  have HRL4 := Lib.hid hrL
  have HB4 := Lib.hid hb4
  clear hLD hLN hrL hb4
  go_wp2_with fail
  refine (groups_any st L aL kL cL _ hst1 (by omega) (by omega) HLN.out HLO.out HRL4.out).mono ?_
  rintro e w5 ⟨aG, q, cG, rs, rfl, hrq, hmap, hGR, hb5⟩
  have HLI := Lib.hid (lkJ_ok (n := st) L HLO.out)
  have hGQ := grp_ok HLI.out
  rw [← hmap] at hGQ
  obtain ⟨G, hG⟩ : ∃ G, rs.map GRow.xs = G := ⟨_, rfl⟩
  rw [hG] at hGQ
  have HGM := Lib.hid hG
  have HGQ := Lib.hid hGQ
  have HRQ := Lib.hid hrq
  have hGl : G.length = q := by rw [← hG, List.length_map]; exact hrq
  have HGL := Lib.hid hGl
  have hq5 : q ≤ 5 := by have h9 := hGQ.ln; omega
  have HGR5 := Lib.hid hGR
  have HRL5 := Lib.hid (HRL4.out.below hb5)
  have HB5 := Lib.hid (HB4.out.trans (hb5.mono HB4.out.size))
  have HR15 := Lib.hid (HW1.out.below HB5.out)
  have HT5 := Lib.hid (HTAB.out.below HB5.out)
  clear hrq hmap hGR hb5 hG hGQ hGl HRL4 HB4
  obtain ⟨zs, hzs⟩ : ∃ zs : List Int, List.replicate st (0 : Int) = zs := ⟨_, rfl⟩
  have HZ := Lib.hid hzs
  clear hzs
  go_wp2_with (at_make; refine wpl_make eI_len (by decide) _ rfl _ _ 30 rfl 2 (0 : Int) _ 8 rfl Tryd.underlying30 infoL7 .i64 .i64 _ _ st rfl rfl rfl rfl (by omega) (by unfold maxLen; omega) zs HZ ?_)
  intro w6 ho6 hb6 hs6
  obtain ⟨gP, hgP⟩ : ∃ g, w5.heap.size = g := ⟨_, rfl⟩
  rw [hgP] at ho6 ⊢
  have HO6 := Lib.hid ho6
  have HB6 := Lib.hid hb6
  have HGP := Lib.hid hgP
  have HP6 : Hid (∀ q : Nat, q < st → zs.getD q 0 = plSum 0 (G.take 0) q) := Lib.hid fun q hq => by rw [← HZ.out, List.take_zero]; simp [List.getD, hq, plSum]
  clear ho6 hb6 hs6 hgP
  go_wp2_with fail
  go_loopw [10, 11] (fun mv i wr => ∃ (k : Nat) (P : List Int), k ≤ q ∧ i = .int .i64 k ∧ mv = .int .i64 ((smK G k : Nat) : Int) ∧ Hid (∀ q : Nat, q < st → P.getD q 0 = plSum 0 (G.take k) q) ∧ Hid (Ow eI 1 wr gP 2 (.slice (some ⟨gP, 0, none⟩) st st) st P) ∧ Hid (Below w5.heap.size w5 wr)) (fun _ i _ => q - (intOf i).toNat)
  case atStart => exact ⟨0, zs, Nat.zero_le _, rfl, rfl, HP6, HO6, HB6⟩
  case round =>
  obtain ⟨k, P, hk, rfl, rfl, HPk, HOk, HBk⟩ := hrel
  obtain ⟨wA, hwA⟩ : ∃ wx, wx = wr := ⟨_, rfl⟩
  subst hwA
  clear HP6 HO6 HB6
  by_cases hlt : k < q
  · obtain ⟨r, hr⟩ : ∃ z, rs[k]? = some z := ⟨_, List.getElem?_eq_getElem (by rw [HRQ.out]; exact hlt)⟩
    have hGk : G[k]? = some r.xs := by rw [← HGM.out, List.getElem?_map, hr]; rfl
    have hGRA := HGR5.out.below HBk.out
    obtain ⟨bG, oG, habG, hCG⟩ := hGRA.1.addr1 (by rw [HRQ.out]; omega) (fun _ => rfl)
    have HGBC := Lib.hid (fun wz (hz : Below w5.heap.size w5 wz) => (HGR5.out.below hz).1.addr1 (f := fun r : GRow => Value.slice r.a r.n r.c) (by rw [HRQ.out]; omega) (fun _ => rfl))
    obtain ⟨hr1, hr2⟩ := hGRA.2 r (List.mem_of_getElem? hr)
    obtain ⟨x0, tl, hxs⟩ := HGQ.out.pos k _ hGk
    obtain ⟨hris, hxl⟩ := HGQ.out.ris k _ hGk
    have hn0' : 0 < r.n := by rw [← hr2, hxs]; simp
    obtain ⟨bR, oR, habR, hCR⟩ := hr1.addr1 (f := fun x => Value.int .i64 x) (by rw [hr2]; exact hn0') (fun _ => rfl)
    have cG : wA.cell? ⟨bG, oG + k, none⟩ = some (.slice r.a r.n r.c) := hCG k r hr wA (Below.refl _ _)
    have HX0 : Hid (r.xs[0]? = some x0) := Lib.hid (by rw [hxs]; rfl)
    have HRL : Hid (r.xs.length = r.n) := Lib.hid hr2
    have HRN5 : r.n ≤ 5 := by have h9 := hxl; rw [hr2] at h9; omega
    have HRI := Lib.hid hris
    have HGK := Lib.hid hGk
    have HRR := Lib.hid hr
    have HR1 := Lib.hid hr1
    have HCG := Lib.hid hCG
    have HCR := Lib.hid hCR
    subst habG
    rw [habR] at cG HR1
    have dn0 : ((r.n : Int) == 0) = false := by rw [beq_eq_false_iff_ne]; omega
    have dn0n : (r.n == 0) = false := by rw [beq_eq_false_iff_ne]; omega
    have HCA : Hid (∀ u : Cls wA.heap.size wA, Calls Tryd.prog 7 #[.slice (some ⟨bR, oR, none⟩) r.n r.c, .int .i64 (st : Int)] u.w fun e w' => e = .returned (.bool true) ∧ Below u.w.heap.size u.w w') := Lib.hid fun u => a2Rises_any r.xs _ r.n r.c st u.w (by omega) (by omega) HRL.out HRI.out (HR1.out.below u.ok)
    have cX : wA.cell? ⟨bR, oR, none⟩ = some (.int .i64 x0) := by have h9 := HCR.out 0 x0 HX0.out wA (Below.refl _ _); rwa [Nat.add_zero] at h9
    have j0 : (0 : Int) ≤ (k : Nat) := by omega
    have j1 : ((k : Nat) : Int) < (q : Nat) := by omega
    have jr : ((0 : Int)) < (r.n : Nat) := by omega
    have hgA : Below wA.heap.size wA wA := Below.refl _ _
    clear hris hxl hGk hr hr1 hr2 hCG hCR hxs habR hGRA
    have HAFTER : Hid (∀ wz, Below wA.heap.size wA wz → Hid (Ow eI 1 wz gP 2 (.slice (some ⟨gP, 0, none⟩) st st) st P) ∧ Hid (Below w5.heap.size w5 wz) ∧ wz.cell? ⟨bG, oG + k, none⟩ = some (.slice (some ⟨bR, oR, none⟩) r.n r.c)) := Lib.hid fun wz hz => ⟨Lib.hid (HOk.out.below hz), Lib.hid (HBk.out.trans (hz.mono HBk.out.size)), (hz.cell (lt_of_cell cG)).trans cG⟩
    have n0 := cls_cell (w0 := wA) (B := wA.heap.size) (lt_of_cell cG) cG
    have n1 := cls_cell (w0 := wA) (B := wA.heap.size) (lt_of_cell cX) cX
    -- the two ways: the first set, or a later one
    by_cases hk0 : k = 0
    case' pos =>
      have dk : decide ((0 : Int) < (k : Int)) = false := decide_eq_false (by omega)
      have dkn : decide (0 < k) = false := decide_eq_false (by omega)
      clear cG cX hk0
    case' neg =>
      obtain ⟨r', hr'⟩ : ∃ z, rs[k - 1]? = some z := ⟨_, List.getElem?_eq_getElem (by rw [HRQ.out]; omega)⟩
      have hGk' : G[k - 1]? = some r'.xs := by rw [← HGM.out, List.getElem?_map, hr']; rfl
      obtain ⟨x1, tl', hxs'⟩ := HGQ.out.pos (k - 1) _ hGk'
      obtain ⟨hr1', hr2'⟩ := (HGR5.out.below HBk.out).2 r' (List.mem_of_getElem? hr')
      have hlt1 := HGQ.out.hd (k - 1) _ _ x1 x0 hGk' (by rw [show k - 1 + 1 = k by omega]; exact HGK.out) (by rw [hxs']; rfl) HX0.out
      obtain ⟨bR', oR', habR', hCR'⟩ := hr1'.addr1 (f := fun x => Value.int .i64 x) (by rw [hxs']; simp) (fun _ => rfl)
      have cG' : wA.cell? ⟨bG, oG + (k - 1), none⟩ = some (.slice r'.a r'.n r'.c) := HCG.out (k - 1) r' hr' wA (Below.refl _ _)
      rw [habR'] at cG'
      have cX' : wA.cell? ⟨bR', oR', none⟩ = some (.int .i64 x1) := by have h9 := hCR' 0 x1 (by rw [hxs']; rfl) wA (Below.refl _ _); rwa [Nat.add_zero] at h9
      have hn1 : 0 < r'.n := by rw [← hr2', hxs']; simp
      have jr' : ((0 : Int)) < (r'.n : Nat) := by omega
      have n2 := cls_cell (w0 := wA) (B := wA.heap.size) (lt_of_cell cG') cG'
      have n3 := cls_cell (w0 := wA) (B := wA.heap.size) (lt_of_cell cX') cX'
      have dk : decide ((0 : Int) < (k : Int)) = true := decide_eq_true (by omega)
      have dkn : decide (0 < k) = true := decide_eq_true (by omega)
      have dx : decide (x0 ≤ x1) = false := decide_eq_false (by omega)
      have ik : IntKind.i64.wrap ((k : Int) - 1) = (k : Int) - 1 := IntWalk.i64_in _ (by omega)
      have jk0 : (0 : Int) ≤ (k : Int) - 1 := by omega
      have jk1 : (k : Int) - 1 < (q : Int) := by omega
      have jk2 : ((k : Int) - 1).toNat = k - 1 := by omega
      have jk3 : (1 : Int) ≤ (k : Int) := by omega
      have jk4 : 1 ≤ k := by omega
      clear hr' hGk' hxs' hr1' hr2' hlt1 habR' hCR' cG cX cG' cX' hn1
    all_goals
      go_upto_region 12 with (fail)
      refine wp_region_cls wA (B := wA.heap.size) (by kernel_rfl) (by kernel_rfl) (Below.refl _ _) ?_
      repeat (go_big_quiet_step ((go_at_call 7; exact cls_call (Nat.le_refl _) (HCA.out _))))
      refine wpQuiet_nil ?_
      intro _ hw'
      obtain ⟨uq, hw''⟩ := hw'
      subst hw''
      have hb3 := uq.ok
      generalize uq.w = wB at hb3
      obtain ⟨HOB, HBB, cB⟩ := HAFTER.out wB hb3
      clear n0 n1 HCA hb3
      go_wp2_with fail
      go_loopw [10, 12] (fun mv i wr => ∃ (j : Nat) (P : List Int), j ≤ r.n ∧ i = .int .i64 j ∧ mv = .int .i64 ((smK G k + j : Nat) : Int) ∧ Hid (PlI st G r.xs k j P) ∧ Hid (Ow eI 1 wr gP 2 (.slice (some ⟨gP, 0, none⟩) st st) st P) ∧ Hid (Below w5.heap.size w5 wr)) (fun _ i _ => r.n - (intOf i).toNat)
      case atStart => exact ⟨0, P, Nat.zero_le _, rfl, rfl, Lib.hid (PlI.zero st G r.xs k HPk.out), HOB, HBB⟩
      case round =>
      obtain ⟨j, P2, hj, rfl, rfl, HPj, HOj, HBj⟩ := hrel
      obtain ⟨wC, hwC⟩ : ∃ wx, wx = wr := ⟨_, rfl⟩
      subst hwC
      clear HOB HBB cB
      have HGC := Lib.hid (HGR5.out.below HBj.out)
      obtain ⟨bq, oq, habq, hCq⟩ := HGC.out.1.addr1 (f := fun r : GRow => Value.slice r.a r.n r.c) (by rw [HRQ.out]; omega) (fun _ => rfl)
      cases habq
      have cG2 : wC.cell? ⟨bG, oG + k, none⟩ = some (.slice r.a r.n r.c) := hCq k r HRR.out wC (Below.refl _ _)
      obtain ⟨hr1, hr2⟩ := HGC.out.2 r (List.mem_of_getElem? HRR.out)
      obtain ⟨bS, oS, habS, hCS⟩ := hr1.addr1 (f := fun x => Value.int .i64 x) (by rw [hr2]; exact hn0') (fun _ => rfl)
      rw [habS] at cG2
      by_cases hjr : j < r.n
      · obtain ⟨x, hx⟩ : ∃ z, r.xs[j]? = some z := ⟨_, List.getElem?_eq_getElem (by rw [HRL.out]; exact hjr)⟩
        obtain ⟨hx0, hx1⟩ := risF_at HRI.out j x hx
        have cX2 : wC.cell? ⟨bS, oS + j, none⟩ = some (.int .i64 x) := hCS j x hx wC (Below.refl _ _)
        have hPl := HOj.out.len eI_len (by decide)
        obtain ⟨y, hy⟩ : ∃ z, P2[x.toNat]? = some z := ⟨_, List.getElem?_eq_getElem (by omega)⟩
        have hyb := HPj.out.bd (q := x.toNat) (by omega) (by omega) (by rw [HRL.out]; omega) (by rw [HGQ.out.sum]; omega)
        rw [show P2.getD x.toNat 0 = y by simp [List.getD, hy]] at hyb
        have cP : wC.cell? ⟨gP, x.toNat, none⟩ = some (.int .i64 y) := HOj.out.cellI2 hy
        have fP : wC.frozen? ⟨gP, x.toNat, none⟩ = false := World.ownsRow.frozenAt HOj.out x.toNat
        have i1 : IntKind.i64.wrap ((k : Int) + 1) = (k : Int) + 1 := IntWalk.i64_in _ (by omega)
        have i2 : IntKind.i64.wrap (y + ((k : Int) + 1)) = y + ((k : Int) + 1) := IntWalk.i64_in _ (by omega)
        have i3 : IntKind.i64.wrap (((smK G k + j : Nat) : Int) + 1) = ((smK G k + (j + 1) : Nat) : Int) := by rw [show ((smK G k + (j + 1) : Nat) : Int) = ((smK G k + j : Nat) : Int) + 1 by omega]; exact IntWalk.i64_in _ (by have h9 := smK_le G k; rw [HGQ.out.sum] at h9; omega)
        have i3' : IntKind.i64.wrap ((smK G k : Int) + (j : Int) + 1) = ((smK G k + (j + 1) : Nat) : Int) := by rw [← i3]; congr 1
        have HP2 := Lib.hid (HPj.out.step hPl hx hx0 hx1 hy)
        have HO2 := Lib.hid (HOj.out.setI2 x.toNat (y + ((k : Int) + 1)))
        have HB2 := Lib.hid (HBj.out.setCell (p := ⟨gP, x.toNat, none⟩) (show w5.heap.size ≤ gP by rw [HGP.out]; exact Nat.le_refl _) (.int .i64 (y + ((k : Int) + 1))))
        have jj0 : (0 : Int) ≤ (j : Nat) := by omega
        have jj1 : ((j : Nat) : Int) < (r.n : Nat) := by omega
        clear hx hy hCS hCq hr1 hr2 hPl
        go_wp2_with fail
        go_roundw
        case rel => exact ⟨j + 1, _, by omega, by go_num, by first | rfl | (congr 1), HP2, HO2, HB2⟩
        case measure => simp [intOf]; omega
      · obtain rfl : r.n = j := by omega
        have HPD : Hid (∀ q : Nat, q < st → P2.getD q 0 = plSum 0 (G.take (k + 1)) q) := Lib.hid (PlI.done (by rw [HRL.out]; exact HPj.out) HGK.out)
        have HSM : Hid (smK G k + r.n = smK G (k + 1)) := Lib.hid (by rw [smK_snoc HGK.out, HRL.out])
        clear hCS hCq hr1 hr2
        go_wp2_with fail
        go_roundw
        case rel => exact ⟨k + 1, P2, by omega, by go_num, by rw [HSM.out], HPD, HOj, HBj⟩
        case measure => simp [intOf]; omega
  obtain rfl : q = k := by omega
  have HSUM : Hid (smK G q = st) := Lib.hid (by
    have h9 := HGQ.out.sum
    unfold smK; rw [List.take_of_length_le (by rw [HGL.out]; omega)]; exact h9)
  have HPF : Hid (∀ i j : Nat, i < st → j < st → (lkJ st L).F.getD i 0 = (lkJ st L).F.getD j 0 → P.getD i 0 = P.getD j 0) := Lib.hid fun i j hi hj he => by
    rw [HPk.out i hi, HPk.out j hj, List.take_of_length_le (by rw [HGL.out]; omega)]
    exact HGQ.out.same i j hi hj he
  rw [HSUM.out]
  have HPL := Lib.hid (HOk.out.len eI_len (by decide))
  have dst : ((st : Int) != (st : Int)) = false := by simp
  have HRLA := Lib.hid (HRL5.out.below HBk.out)
  have HTA := Lib.hid (HT5.out.below HBk.out)
  have HRP := Lib.hid (HOk.out.rd eI_len (by decide))
  clear HPk
  go_wp2_with fail
  clear hlt hk
  go_loopw [13] (fun i wr => ∃ k : Nat, k ≤ kL ∧ i = .int .i64 k ∧ Hid (Below wA.heap.size wA wr)) (fun i _ => kL - (intOf i).toNat)
  case atStart => exact ⟨0, Nat.zero_le _, rfl, Lib.hid (Below.refl _ _)⟩
  case round =>
  obtain ⟨k, hk, rfl, HBr⟩ := hrel
  obtain ⟨wC, hwC⟩ : ∃ wx, wx = wr := ⟨_, rfl⟩
  subst hwC
  by_cases hlt : k < kL
  · obtain ⟨l, hl⟩ : ∃ z, L[k]? = some z := ⟨_, List.getElem?_eq_getElem (by rw [HLN.out]; exact hlt)⟩
    have hlo := HLO.out l (List.mem_of_getElem? hl)
    have HLOK := Lib.hid hlo
    obtain ⟨q0, q1, q2, q3, q4⟩ := hlo
    obtain ⟨hlk, _⟩ := HLI.out.lk l (List.mem_of_getElem? hl)
    have hpp := HPF.out l.a.toNat l.b.toNat (by omega) (by omega) hlk
    obtain ⟨pa, hpa⟩ : ∃ z, P[l.a.toNat]? = some z := ⟨_, List.getElem?_eq_getElem (by rw [HPL.out]; omega)⟩
    obtain ⟨pb, hpb⟩ : ∃ z, P[l.b.toNat]? = some z := ⟨_, List.getElem?_eq_getElem (by rw [HPL.out]; omega)⟩
    have hpab : pa = pb := by rw [show P.getD l.a.toNat 0 = pa by simp [List.getD, hpa], show P.getD l.b.toNat 0 = pb by simp [List.getD, hpb]] at hpp; exact hpp
    obtain ⟨bL, oL, habL, hCL⟩ := (HRLA.out.below HBr.out).addr (by rw [HLN.out]; omega)
    subst habL
    have y0 := hCL k l hl wC (Below.refl _ _) 0 _ rfl
    rw [Nat.add_zero] at y0
    have y1 := hCL k l hl wC (Below.refl _ _) 1 _ rfl
    have y2 := hCL k l hl wC (Below.refl _ _) 2 _ rfl
    have hOC := HOk.out.below HBr.out
    have y3 : wC.cell? ⟨gP, l.a.toNat, none⟩ = some (.int .i64 pa) := hOC.cellI2 hpa
    have y4 : wC.cell? ⟨gP, l.b.toNat, none⟩ = some (.int .i64 pb) := hOC.cellI2 hpb
    rw [← hpab] at y4
    have dpp : (pa != pa) = false := by simp
    obtain ⟨e1, e2, e3⟩ := ne_formsG (lkT l) (lkT_ne l)
    have HCT : Hid (∀ u : Cls wC.heap.size wC, Calls Tryd.prog 8 #[.agg #[.int .i64 l.a, .int .i64 l.b, .int .i64 l.diff]] u.w fun e w' => e = .returned (.string (lkT l)) ∧ Below u.w.heap.size u.w w') := Lib.hid fun u => linkText_any st l (by omega) HLOK.out u.w ((HTA.out.below HBr.out).below u.ok)
    obtain ⟨T, hTT⟩ : ∃ T, lkT l = T := ⟨_, rfl⟩
    rw [hTT] at e1 e2 e3 HCT
    have n0 := cls_cell (w0 := wC) (B := wC.heap.size) (lt_of_cell y0) y0
    have n1 := cls_cell (w0 := wC) (B := wC.heap.size) (lt_of_cell y1) y1
    have n2 := cls_cell (w0 := wC) (B := wC.heap.size) (lt_of_cell y2) y2
    have n3 := cls_cell (w0 := wC) (B := wC.heap.size) (lt_of_cell y3) y3
    have n4 := cls_cell (w0 := wC) (B := wC.heap.size) (lt_of_cell y4) y4
    have j0 : (0 : Int) ≤ (k : Nat) := by omega
    have j1 : ((k : Nat) : Int) < (kL : Nat) := by omega
    have ja : l.a < (st : Int) := by omega
    have jb : (0 : Int) ≤ l.b := by omega
    clear hl hlk hpp hpa hpb hpab hCL hOC y0 y1 y2 y3 y4 hTT
    go_upto_region 24 with (fail)
    refine wp_region_cls wC (B := wC.heap.size) (by kernel_rfl) (by kernel_rfl) (Below.refl _ _) ?_
    repeat (go_big_quiet_step ((go_at_call 8; exact cls_call (Nat.le_refl _) (HCT.out _))))
    refine wpQuiet_nil ?_
    intro _ hw'
    obtain ⟨uq, hw''⟩ := hw'
    subst hw''
    have hb3 := uq.ok
    generalize uq.w = wD at hb3
    have HBD := Lib.hid (HBr.out.trans (hb3.mono HBr.out.size))
    clear n0 n1 n2 n3 n4 HCT hb3
    go_wp2_with fail
    go_roundw
    case rel => exact ⟨k + 1, by omega, by go_num, HBD⟩
    case measure => simp [intOf]; omega
  obtain rfl : kL = k := by omega
  have HBC := Lib.hid (HBk.out.trans (HBr.out.mono HBk.out.size))
  have HRL6 := Lib.hid (HRL5.out.below HBC.out)
  have HR16 := Lib.hid (HR15.out.below HBC.out)
  have HB6 := Lib.hid (HB5.out.trans (HBC.out.mono HB5.out.size))
  clear hlt hk HRLA HTA HRP HBr HBk HOk HPF HPL
  go_wp2_with fail
  refine (a2At_any 0 (st : Int) a1 n1 c1 x1 _ (by omega) (by omega) HL1.out HO1.out HR16.out).mono ?_
  rintro e wz ⟨kv, rfl, hkv0, hkv1, rfl⟩
  obtain ⟨kn, rfl⟩ : ∃ z : Nat, kv = z := ⟨kv.toNat, by omega⟩
  go_wp2_with fail
  refine (mags_any st kn L aL kL cL _ hst1 hst5 (by omega) (by omega) HLN.out HLD.out HRL6.out).mono ?_
  rintro e w7 ⟨aM, kM, cM, ML, cd, rfl, hcase, hml, hmr, hb7⟩
  have HRL7 := Lib.hid (HRL6.out.below hb7)
  have HB7 := Lib.hid (HB6.out.trans (hb7.mono HB6.out.size))
  have HMR := Lib.hid hmr
  have HML := Lib.hid hml
  clear hb7 hmr hml
  go_wp2_with fail
  refine (spConsistent st L aL kL cL _ hst1 (by omega) (by omega) HLN.out HLO.out HRL7.out).mono ?_
  rintro e w8 ⟨rfl, hb8⟩
  have HRL8 := Lib.hid (HRL7.out.below hb8)
  have HMR8 := Lib.hid (HMR.out.below hb8)
  have HB8 := Lib.hid (HB7.out.trans (hb8.mono HB7.out.size))
  clear hb8 HRL7 HRL6 HMR
  rcases hcase with ⟨hok, rfl⟩ | ⟨hok, ⟨i, hi, hne⟩, rfl⟩ | ⟨hok, rfl, hkM, rfl⟩
  · rw [hok]
    have HOK := Lib.hid hok
    clear hok
    go_wp2_with fail
    go_ret
    exact ⟨rfl, HB8.out⟩
  · rw [hok]
    have HOK := Lib.hid hok
    have h2 := HGQ.out.two i kn hi (by omega) hne
    rw [HGL.out] at h2
    have d2 : decide ((1 : Int) < (q : Int)) = true := decide_eq_true (by omega)
    have d2n : decide (1 < q) = true := decide_eq_true h2
    clear hok hne
    go_wp2_with fail
    go_ret
    exact ⟨rfl, HB8.out⟩
  obtain rfl := hkM.symm
  rw [hok]
  have HOK := Lib.hid hok
  have hm9 : (magK (lkJ st L) kn st)[kn]? = some 9000 := by rw [magK_at (by omega)]; congr 1; omega
  obtain ⟨bM, oM, habM, hCM⟩ := HMR8.out.addr1 (f := fun x => Value.int .i64 x) (by rw [HML.out]; omega) (fun _ => rfl)
  subst habM
  have HCM := Lib.hid hCM
  have c9 : w8.cell? ⟨bM, oM + kn, none⟩ = some (.int .i64 9000) := hCM kn 9000 hm9 w8 (Below.refl _ _)
  have j0 : (0 : Int) ≤ (kn : Nat) := by omega
  have j1 : ((kn : Nat) : Int) < (st : Nat) := by omega
  clear hok hm9 hCM
  go_wp2_with fail
  go_loopw [19] (fun i wr => ∃ k : Nat, k ≤ kL ∧ i = .int .i64 k ∧ Hid (Below w8.heap.size w8 wr)) (fun i _ => kL - (intOf i).toNat)
  case atStart => exact ⟨0, Nat.zero_le _, rfl, Lib.hid (Below.refl _ _)⟩
  case round =>
  obtain ⟨k, hk, rfl, HBr⟩ := hrel
  obtain ⟨wC, hwC⟩ : ∃ wx, wx = wr := ⟨_, rfl⟩
  subst hwC
  clear c9
  by_cases hlt : k < kL
  · obtain ⟨l, hl⟩ : ∃ z, L[k]? = some z := ⟨_, List.getElem?_eq_getElem (by rw [HLN.out]; exact hlt)⟩
    obtain ⟨q0, q1, q2, q3, q4⟩ := HLO.out l (List.mem_of_getElem? hl)
    obtain ⟨_, hld⟩ := HLI.out.lk l (List.mem_of_getElem? hl)
    have hld2 := hld HOK.out
    have hma : (magK (lkJ st L) kn st)[l.a.toNat]? = some (9000 + lkN (lkJ st L) l.a - (lkJ st L).N.getD kn 0) := magK_at (by omega)
    have hmb : (magK (lkJ st L) kn st)[l.b.toNat]? = some (9000 + lkN (lkJ st L) l.b - (lkJ st L).N.getD kn 0) := magK_at (by omega)
    obtain ⟨va, hva⟩ : ∃ z, 9000 + lkN (lkJ st L) l.a - (lkJ st L).N.getD kn 0 = z := ⟨_, rfl⟩
    obtain ⟨vb, hvb⟩ : ∃ z, 9000 + lkN (lkJ st L) l.b - (lkJ st L).N.getD kn 0 = z := ⟨_, rfl⟩
    rw [hva] at hma
    rw [hvb] at hmb
    have hvab : vb - va = l.diff := by omega
    obtain ⟨bL, oL, habL, hCL⟩ := (HRL8.out.below HBr.out).addr (by rw [HLN.out]; omega)
    subst habL
    have y0 := hCL k l hl wC (Below.refl _ _) 0 _ rfl
    rw [Nat.add_zero] at y0
    have y1 := hCL k l hl wC (Below.refl _ _) 1 _ rfl
    have y2 := hCL k l hl wC (Below.refl _ _) 2 _ rfl
    have y3 : wC.cell? ⟨bM, oM + l.a.toNat, none⟩ = some (.int .i64 va) := HCM.out _ _ hma wC HBr.out
    have y4 : wC.cell? ⟨bM, oM + l.b.toNat, none⟩ = some (.int .i64 vb) := HCM.out _ _ hmb wC HBr.out
    have i1 : IntKind.i64.wrap (vb - va) = l.diff := by rw [hvab]; exact IntWalk.i64_in _ (by omega)
    have ddd : (l.diff != l.diff) = false := by simp
    have k0 : (0 : Int) ≤ (k : Nat) := by omega
    have k1 : ((k : Nat) : Int) < (kL : Nat) := by omega
    have ja : l.a < (st : Int) := by omega
    have jb : (0 : Int) ≤ l.b := by omega
    clear hl hld hld2 hma hmb hva hvb hvab hCL
    go_wp2_with fail
    go_quiet (fail)
    have hbq := below_drewN (Below.refl wC.heap.size wC) nq
    have HBD := Lib.hid (HBr.out.trans (hbq.mono HBr.out.size))
    clear hbq
    go_wp2_with fail
    go_roundw
    case rel => exact ⟨k + 1, by omega, by go_num, HBD⟩
    case measure => simp [intOf]; omega
  have HBE := Lib.hid (HB8.out.trans (HBr.out.mono HB8.out.size))
  go_wp2_with fail
  go_ret
  exact ⟨rfl, HBE.out⟩

open Go.ChangeShapes Go.WideShapes Go.ChangeAt Go.RowKit
open Go.ChangeMaps (open_string shut_string)
set_option linter.unusedVariables false

theorem own : ownKnob Tryd.prog.godebug = none := by kernel_rfl
theorem laidOut : laidOutB Tryd.prog = true := by kernel_rfl

theorem door_met (os : Os) (args : Array Value) : laidMetH Tryd.prog [("math/bits.deBruijn32tab", Rows.laid_math_bits_deBruijn32tab), ("math/bits.deBruijn64tab", Rows.laid_math_bits_deBruijn64tab), ("internal/strconv.uint64pow10", Rows.laid_internal_strconv_uint64pow10)] ((World.doorLaid Tryd.prog 24 os).forCall (fun _ _ => 0) ⟨#[], args, []⟩).memory :=
  laidMetH_of_parts3 (fuel := 8) (laidMet_of_run' 8 (by kernel_rfl) (by kernel_rfl)) (by kernel_rfl) (by kernel_rfl)
theorem tab_data : (Rows.laid_internal_strconv_uint64pow10 : DataW Unit) = Lib.tabData .u64 Lib.pow10Tab := by kernel_rfl
theorem tab_ok {W : World} (h : laidMetH Tryd.prog [("math/bits.deBruijn32tab", Rows.laid_math_bits_deBruijn32tab), ("math/bits.deBruijn64tab", Rows.laid_math_bits_deBruijn64tab), ("internal/strconv.uint64pow10", Rows.laid_internal_strconv_uint64pow10)] W) : TabOk W := by
  rw [MakeChecks.laidMetH_plain _ _ _ (by kernel_rfl)] at h
  have h2 := (laidMet.tail (laidMet.tail h))
  rw [tab_data] at h2
  exact Lib.tabIs_of_head (P := Tryd.prog) (g := 0) (t := 76) (e := 58) (n := 20) (by kernel_rfl) (by kernel_rfl) (by kernel_rfl) (by kernel_rfl) (by kernel_rfl) (by kernel_rfl) h2
set_option maxRecDepth 100000 in
theorem lifted (os : Os) (started : os.Started) (H : Type) (enc : TypeId × Value → H) :
    ReturnsInHanded {} Tryd.checked os 3 .any (fun w args => (Rows.fnGroupsSpec.pre enc Tryd.prog Tryd.f3 [] false w args ∧ laidMetH Tryd.prog [("math/bits.deBruijn32tab", Rows.laid_math_bits_deBruijn32tab), ("math/bits.deBruijn64tab", Rows.laid_math_bits_deBruijn64tab), ("internal/strconv.uint64pow10", Rows.laid_internal_strconv_uint64pow10)] w) ∧ sizedMet enc Tryd.prog Tryd.f3 (OpenSpec.ofChange Rows.fnGroupsSpec) false w args)
      (Rows.fnGroupsSpec.post enc Tryd.prog Tryd.f3 false true false false) := by
  refine returnsInHanded_of_change_and (C := Tryd.checked) (X := fun w _ => laidMetH Tryd.prog [("math/bits.deBruijn32tab", Rows.laid_math_bits_deBruijn32tab), ("math/bits.deBruijn64tab", Rows.laid_math_bits_deBruijn64tab), ("internal/strconv.uint64pow10", Rows.laid_internal_strconv_uint64pow10)] w) (fun _ _ _ hh h => h.of_heap hh) own started (by kernel_rfl) Tryd.func3
    (ChangeSpec.witness_shaped (enc := enc) (C := Tryd.checked) (os := os) (X := fun w _ => laidMetH Tryd.prog [("math/bits.deBruijn32tab", Rows.laid_math_bits_deBruijn32tab), ("math/bits.deBruijn64tab", Rows.laid_math_bits_deBruijn64tab), ("internal/strconv.uint64pow10", Rows.laid_internal_strconv_uint64pow10)] w) false (World.doorLaid Tryd.prog 24 os) #[.slice none 0 0, .slice none 0 0] 8 rfl (World.shaped_of_RefB (by kernel_rfl) (by kernel_rfl)) (by kernel_rfl) (by kernel_rfl) (by kernel_rfl) (door_met os _)) ?_
  intro W base args ds gs before hval0 hW _ _ hL _
  have hTab := tab_ok hL
  have hval : ∀ (j : Nat) t v, Tryd.f3.params[j]? = some t → args[j]? = some v → Value.okWide Tryd.prog W .any base t v := hval0
  have hW' := hW
  obtain ⟨p, q, hA0, hV, rfl, hfz, hnd⟩ := hW
  have hA : DataW.TrodAll enc Tryd.prog W 0 (fun _ => true) true Tryd.f3.params.toList args.toList ds p := hA0
  rw [Tryd.params3] at hA hval
  obtain ⟨v0, vs0, d0, ds0, p0, q0, hargs, rfl, rfl, h0, r0⟩ := trodAll_cons hA
  obtain ⟨v1, vs1, d1, ds1, p1, q1, rfl, rfl, rfl, h1, r1⟩ := trodAll_cons r0
  obtain ⟨rfl, rfl, rfl⟩ := trodAll_nil r1
  obtain rfl : args = #[v0, v1] := by cases args; simp_all
  obtain ⟨rfl, rfl⟩ := trodVars_none hV
  obtain ⟨a0, n0, c0, rfl⟩ := okWide_slice Tryd.underlying22 (hval 0 22 v0 rfl rfl)
  have k0 := h0
  have lt0 : ∀ x ∈ p0, x.block < W.heap.size := by obtain ⟨m, hm⟩ := k0; exact DataW.trod_lt m _ _ _ hm
  obtain ⟨x0, l0, m0, o0, w0⟩ := open_bytes h0
  obtain ⟨a1, n1, c1, rfl⟩ := okWide_slice Tryd.underlying22 (hval 1 22 v1 rfl rfl)
  have k1 := h1
  have lt1 : ∀ x ∈ p1, x.block < W.heap.size := by obtain ⟨m, hm⟩ := k1; exact DataW.trod_lt m _ _ _ hm
  obtain ⟨x1, l1, m1, o1, w1⟩ := open_bytes h1
  clear hA0 hval0
  refine (law_walk a0 n0 c0 x0 a1 n1 c1 x1 W l0 m0 o0 w0 l1 m1 o1 w1 hTab).mono fun e W' ⟨he, bel⟩ => ?_
  subst he
  exact ⟨_, rfl, _, _, _, [], _, [], hW', trodAll_mk1 (shut_bool Tryd.underlying4 _), (trodAll_cons_mk (Below.trod laidOut (by kernel_rfl) (of_decide_eq_true (by kernel_rfl)) k0 bel lt0) (trodAll_cons_mk (Below.trod laidOut (by kernel_rfl) (of_decide_eq_true (by kernel_rfl)) k1 bel lt1) trodAll_mk0)), rfl, bel.frame _, fun h => by cases h⟩

theorem over : Rows.fnGroupsRow.holds Tryd.pinned (OpenSpec.ofChange Rows.fnGroupsSpec) :=
  OpenClaim.holds_of_wide 3 Tryd.f3 rfl rfl rfl rfl rfl rfl rfl ⟨rfl, rfl, rfl, rfl, rfl⟩ rfl rfl rfl rfl rfl (by kernel_rfl) Tryd.func3 (by kernel_rfl)
    (of_decide_eq_true (by kernel_rfl)) (by unfold Func.isWrapper; first | (rw [if_pos (by decide +kernel)]; kernel_rfl) | (rw [if_neg (by decide +kernel)]; exact ⟨rfl, rfl⟩))
    (fun os started H enc _ => lifted os started H enc)

theorem wants : Tryd.prog.wantsStandIn 22 = false := by kernel_rfl
/-- the statement -/
theorem proved : Rows.FnGroupsCardSaid :=
  Claim7.holds_tied_plain_at .later [] [.data, .data, .data] true (true, "bb7561b359796a65a06dc728fb726d6d0e5d4230af70ee72a1e9070a82c19a24") false
    over (fun _ h => by cases h) (by kernel_rfl) (fun _ h => by cases h) fnGroups_row_tie rfl ⟨rfl, rfl⟩ (by kernel_rfl) rfl
    (fun f fn hf hfn => by
      obtain rfl : f = 3 := Option.some.inj ((show Tryd.prog.funcNamed "loop.example/g01026/laws.FnGroups" = some 3 by kernel_rfl).symm.trans hf) |>.symm
      obtain rfl : fn = Tryd.f3 := (Option.some.inj (Tryd.func3.symm.trans hfn)).symm
      exact ⟨by kernel_rfl, fun j t ht => by
        rw [Tryd.params3] at ht
        have hx : t = 22 := by
          rcases j with _ | _ | j
          · have hy : t = 22 := by simpa using ht.symm
            simp [hy]
          · have hy : t = 22 := by simpa using ht.symm
            simp [hy]
          · simp at ht
        subst hx
        exact wants⟩)
    (by kernel_rfl)
#print axioms proved
end fnGroups
end Go.Proofs.YtnioecigjpifnaaDoor
