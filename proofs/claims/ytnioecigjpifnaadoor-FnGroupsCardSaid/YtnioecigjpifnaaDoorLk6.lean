/-
  The sets of linked stars, and magnitudes from links: the program.
-/
import Derived.Test.YtnioecigjpifnaaDoorLk4
import Derived.Test.YtnioecigjpifnaaDoorLkG
import Derived.Test.YtnioecigjpifnaaDoorWhere
import Derived.Test.YtnioecigjpifnaaDoorFind
import Derived.Deep.RegionHeld3
namespace Go.Proofs.YtnioecigjpifnaaDoor
open Go.RowKit
set_option maxRecDepth 100000
set_option linter.unusedVariables false
set_option linter.unusedSimpArgs false
/-- a row of numbers that lies in a block of its own -/
structure GRow where
  a : Option Addr
  n : Nat
  c : Nat
  xs : List Int
def GRow.enc (r : GRow) : List Value := [.slice r.a r.n r.c]
theorem GRow.len (r : GRow) : r.enc.length = 1 := rfl
theorem GRow.one (r : GRow) : ∀ u ∈ r.enc, u.oneCell' = true := by intro u hu; simp [GRow.enc] at hu; subst hu; rfl
theorem infoGRow : (Tryd.prog.info? 30).map (fun i => (i.zero, i.size, i.bytes)) = some (some (.slice none 0 0), 1, 24) := by kernel_rfl
/-- the slice of rows, each of which can be read -/
structure GrA (w : World) (B : Nat) (v : Value) (k : Nat) (rs : List GRow) : Prop where
  out : Ow GRow.enc 1 w B 30 v k rs
  row : ∀ r ∈ rs, Ow eI 1 w B 2 (.slice r.a r.n r.c) r.n r.xs
theorem GrA.below {w w' : World} {B k : Nat} {v : Value} {rs : List GRow} (h : GrA w B v k rs) (hb : Below w.heap.size w w') : GrA w' B v k rs :=
  ⟨h.out.below hb, fun r hr => (h.row r hr).below hb⟩
theorem owBlkG {α : Type} {enc : α → List Value} {k : Nat} {w : World} {base e n : Nat} {v : Value} {xs : List α} (h : Ow enc k w base e v n xs) {b : Nat} (hb : v.ownBlock = some b) : b < w.heap.size ∧ ∃ cs, w.heap[b]? = some (.cells cs e (0, 0)) := by
  have hlt := h.lt b hb
  rcases h.2 with ⟨h1, _⟩ | ⟨g', cap', cur, h1, _, hgg, _⟩
  · subst h1; cases hb
  · subst h1
    obtain rfl : g' = b := by simpa [Value.ownBlock] using hb
    exact ⟨hlt.2, cur, hgg⟩
theorem GrA.ne {w : World} {B k : Nat} {v : Value} {rs : List GRow} (h : GrA w B v k rs) {base m : Nat} {u : Value} {xs : List Int} (ho : Ow eI 1 w base 2 u m xs) {b : Nat} (hb : u.ownBlock = some b) : v.ownBlock ≠ some b := fun hv => by
  obtain ⟨_, cs, h1⟩ := owBlkG h.out hv
  obtain ⟨_, cs', h2⟩ := owBlkG ho hb
  rw [h1] at h2
  simp at h2
/-- one more row -/
theorem GrA.app {w w' : World} {B k : Nat} {v v' : Value} {rs : List GRow} {r : GRow} (h : GrA w B v k rs) (hr : Ow eI 1 w B 2 (.slice r.a r.n r.c) r.n r.xs) (ho : Ow GRow.enc 1 w' B 30 v' (k + 1) (rs ++ [r])) (hk : ∀ b, b < w.heap.size → v.ownBlock ≠ some b → w'.heap[b]? = w.heap[b]?) : GrA w' B v' (k + 1) (rs ++ [r]) := by
  refine ⟨ho, fun q hq => ?_⟩
  have key : ∀ q : GRow, Ow eI 1 w B 2 (.slice q.a q.n q.c) q.n q.xs → Ow eI 1 w' B 2 (.slice q.a q.n q.c) q.n q.xs := fun q hq => hq.same fun b hb => hk b (hq.lt b hb).2 (h.ne hq hb)
  rcases List.mem_append.1 hq with hq | hq
  · exact key q (h.row q hq)
  · rw [List.mem_singleton.1 hq]; exact key r hr
/-- what is read of the slice of rows -/
def GrR (w : World) (a : Option Addr) (rs : List GRow) : Prop := Rd GRow.enc 1 w a rs ∧ ∀ r ∈ rs, Rd eI 1 w r.a r.xs ∧ r.xs.length = r.n
theorem GrR.below {w w' : World} {a : Option Addr} {rs : List GRow} (h : GrR w a rs) (hb : Below w.heap.size w w') : GrR w' a rs :=
  ⟨h.1.below hb, fun r hr => ⟨(h.2 r hr).1.below hb, (h.2 r hr).2⟩⟩
theorem GrA.rd {w : World} {B k c : Nat} {a : Option Addr} {rs : List GRow} (h : GrA w B (.slice a k c) k rs) : GrR w a rs :=
  ⟨h.out.rd GRow.len (by decide), fun r hr => ⟨(h.row r hr).rd eI_len (by decide), (h.row r hr).len eI_len (by decide)⟩⟩
set_option maxHeartbeats 1000000 in
theorem groups1 (F : List Int) (b ofs : Nat) (r : Int) (n bF bR : Nat) (w : World) (i : Nat) (hi : i < n) (hl : F.length = n) (hr : Rd eI 1 w (some ⟨b, ofs, none⟩) F) (cF : w.cell? ⟨bF, 0, none⟩ = some (.slice (some ⟨b, ofs, none⟩) n n)) (cR : w.cell? ⟨bR, 0, none⟩ = some (.int .i64 r)) :
    Calls Tryd.prog 17 #[.int .i64 i, .pointer (some ⟨bF, 0, none⟩), .pointer (some ⟨bR, 0, none⟩)] w fun e w' => e = .returned (.bool (setP F r i)) ∧ Below w.heap.size w w' := by
  obtain ⟨x, hx⟩ : ∃ x, F[i]? = some x := ⟨_, List.getElem?_eq_getElem (by omega)⟩
  have HP : Hid (setP F r i = (x == r)) := Lib.hid (by unfold setP; rw [show F.getD i 0 = x by simp [List.getD, hx]]; rfl)
  obtain ⟨b', o', he, hc⟩ := hr.at1 hx (u := .int .i64 x) rfl
  cases he
  have c0 := hc.2
  have j0 : (0 : Int) ≤ (i : Nat) := by omega
  have j1 : ((i : Nat) : Int) < (n : Nat) := by omega
  clear hx hc hr
  go_enter Tryd.func17, Tryd.ntmps17
  go_wp2_with fail
  go_quiet (fail)
  have hb := below_drewN (Below.refl w.heap.size w) nq
  go_wp2_with fail
  go_ret
  exact ⟨by rw [HP.out]; rfl, hb⟩
set_option maxHeartbeats 4000000 in
theorem groups_any (n : Nat) (ls : List Lnk) (a : Option Addr) (m c : Nat) (w : World) (h1 : 1 ≤ n) (h10 : n ≤ 10) (hm : m ≤ 12) (hl : ls.length = m) (hok : ∀ l ∈ ls, LkOk n l) (hr : Rd Lnk.enc 3 w a ls) :
    Calls Tryd.prog 6 #[.int .i64 (n : Int), .slice a m c] w fun e w' => ∃ (a' : Option Addr) (k c' : Nat) (rs : List GRow), e = .returned (.tuple #[.slice a' k c', .int .i64 0]) ∧ rs.length = k ∧ rs.map GRow.xs = grpK n (lkJ n ls).F n ∧ GrR w' a' rs ∧ Below w.heap.size w w' := by
  have HL := Lib.hid hl
  have HO := Lib.hid hok
  have HR := Lib.hid hr
  clear hl hok hr
  go_enter Tryd.func6, Tryd.ntmps6
  go_wp2_with fail
  refine (validLinks_ok n ls a m c _ h1 h10 hm HL.out HO.out HR.out).mono ?_
  rintro e w1 ⟨rfl, hb1⟩
  go_wp2_with fail
  refine (offsets_any n ls a m c _ h1 h10 hm HL.out HO.out (HR.out.below hb1)).mono ?_
  rintro e w2 ⟨g, h, rfl, hT⟩
  have HFL := Lib.hid hT.lf
  have HFR := Lib.hid (hT.f.rd eI_len (by decide))
  have HB2 := Lib.hid (hb1.trans (hT.b.mono hb1.size))
  obtain ⟨S, hS⟩ : ∃ S, lkJ n ls = S := ⟨_, rfl⟩
  rw [hS] at HFL HFR
  have HS := Lib.hid hS
  clear hT hb1 hS
  -- the box of the stars' sets
  have hbx := (Below.refl w2.heap.size w2).alloc (Nat.le_refl _) (.cells #[.slice (some ⟨g, 0, none⟩) n n] 30)
  have hCX := CAt.new w2 #[.slice (some ⟨g, 0, none⟩) n n] 30
  obtain ⟨w3, hw3⟩ : ∃ wx, w2.alloc (.cells #[.slice (some ⟨g, 0, none⟩) n n] 30) = wx := ⟨_, rfl⟩
  obtain ⟨bF, hbF⟩ : ∃ gx, w2.heap.size = gx := ⟨_, rfl⟩
  have hB3 := hbx
  rw [hw3] at hCX hB3
  rw [hbF] at hCX
  have HW3 := Lib.hid hw3
  have HBF := Lib.hid hbF
  have HCX := Lib.hid hCX
  have HB3 := Lib.hid hB3
  clear hbx hCX hw3 hbF hB3
  go_upto_region 4 with (fail)
  rw [HW3.out, HBF.out]
  clear HW3 HBF
  -- the slice of rows
  have hG := Ow.built GRow.enc 1 w3 30
  have hbA := below_built w3 30
  have hC4 := HCX.out.below hbA
  have hB4 := HB3.out.trans (hbA.mono HB3.out.size)
  have hltF := HCX.out.lt
  obtain ⟨w4, hw4⟩ : ∃ wx, w3.alloc (.cells #[] 30) = wx := ⟨_, rfl⟩
  obtain ⟨B, hB⟩ : ∃ gx, w3.heap.size = gx := ⟨_, rfl⟩
  have hB4s : B ≤ w4.heap.size := by rw [← hw4, ← hB]; simp
  rw [hw4] at hG hC4 hB4
  rw [hB] at hG hltF
  have HG0 : Hid (GrA w4 B (.slice (some ⟨B, 0, none⟩) 0 0) 0 []) := Lib.hid ⟨hG, fun r hr => by cases hr⟩
  have HW4 := Lib.hid hw4
  have HBB := Lib.hid hB
  have HC4 := Lib.hid hC4
  have HB4 := Lib.hid hB4
  have hwB : w2.heap.size ≤ B := by have h9 := HB3.out.size; have h8 := HBB.out; omega
  clear hG hbA hC4 hB4 hw4 hB HCX HB3
  go_upto_region 5 with (fail)
  rw [HW4.out, HBB.out]
  clear HW4 HBB
  have c0 : w4.cell? ⟨bF, 0, none⟩ = some (.slice (some ⟨g, 0, none⟩) n n) := HC4.out.cell 0
  go_wp2_with fail
  go_loopw [9, 26] (fun ov i wr => ∃ (k q : Nat) (a' : Option Addr) (c' : Nat) (rs : List GRow), k ≤ n ∧ q ≤ k ∧ i = .int .i64 k ∧ ov = .slice a' q c' ∧ Hid (rs.map GRow.xs = grpK n S.F k) ∧ Hid (GrA wr B (.slice a' q c') q rs) ∧ Hid (CAt wr bF #[.slice (some ⟨g, 0, none⟩) n n] 30) ∧ B ≤ wr.heap.size ∧ Hid (Below w2.heap.size w2 wr)) (fun _ i _ => n - (intOf i).toNat)
  case atStart => exact ⟨0, 0, _, _, [], Nat.zero_le _, Nat.le_refl _, rfl, rfl, Lib.hid rfl, HG0, HC4, hB4s, HB4⟩
  case round =>
  obtain ⟨k, q, a', c', rs, hk, hq, rfl, rfl, HMR, HGk, HCk, hBs, HBk⟩ := hrel
  obtain ⟨wA, hwA⟩ : ∃ wx, wx = wr := ⟨_, rfl⟩
  subst hwA
  clear c0 HG0 HC4 HB4 hB4s
  by_cases hlt : k < n
  case neg =>
    obtain rfl : n = k := by omega
    have hql := HGk.out.out.len GRow.len (by decide)
    have HRR := Lib.hid HGk.out.rd
    go_wp2_with fail
    go_ret2
    exact ⟨_, _, _, rs, rfl, hql, by rw [HS.out]; exact HMR.out, HRR.out, HB2.out.trans (HBk.out.mono HB2.out.size)⟩
  obtain ⟨x, hx⟩ : ∃ z, S.F[k]? = some z := ⟨_, List.getElem?_eq_getElem (by rw [HFL.out]; exact hlt)⟩
  obtain ⟨b', o', he, hc⟩ := (HFR.out.below HBk.out).at1 hx (u := .int .i64 x) rfl
  cases he
  have x0 := hc.2
  rw [Nat.zero_add] at x0
  have HRP : Hid (rootP S.F k = decide (x = (k : Int))) := Lib.hid (by unfold rootP; rw [show S.F.getD k 0 = x by simp [List.getD, hx]])
  have hbx := (Below.refl wA.heap.size wA).alloc (Nat.le_refl _) (.cells #[.int .i64 x] 2)
  have hCX := CAt.new wA #[.int .i64 x] 2
  have hGx := HGk.out.below hbx
  have hCk := HCk.out.below hbx
  have hBk := HBk.out.trans (hbx.mono HBk.out.size)
  have hBs2 : B ≤ (wA.alloc (.cells #[.int .i64 x] 2)).heap.size := Nat.le_trans hBs hbx.size
  obtain ⟨wB, hwB2⟩ : ∃ wx, wA.alloc (.cells #[.int .i64 x] 2) = wx := ⟨_, rfl⟩
  obtain ⟨bR, hbR⟩ : ∃ gx, wA.heap.size = gx := ⟨_, rfl⟩
  rw [hwB2] at hCX hGx hCk hBk hBs2
  rw [hbR] at hCX
  have HWB := Lib.hid hwB2
  have HBR := Lib.hid hbR
  have HCR := Lib.hid hCX
  have HGx := Lib.hid hGx
  have HCx := Lib.hid hCk
  have HBx := Lib.hid hBk
  clear hx hc hbx hCX hGx hCk hBk hwB2 hbR
  go_upto_region 8 with (fail)
  rw [HWB.out, HBR.out]
  clear HWB HBR x0
  have y0 : wB.cell? ⟨bR, 0, none⟩ = some (.int .i64 x) := HCR.out.cell 0
  by_cases hxk : (k : Int) = x
  case neg =>
    have dx : ((k : Int) == x) = false := beq_eq_false_iff_ne.2 hxk
    have HNO : Hid (grpK n S.F (k + 1) = grpK n S.F k) := Lib.hid (grpK_no (by rw [HRP.out]; exact decide_eq_false fun e => hxk e.symm)).symm
    go_wp2_with fail
    go_roundw
    case rel => exact ⟨k + 1, q, a', c', rs, by omega, by omega, by go_num, rfl, Lib.hid (by rw [HNO.out]; exact HMR.out), HGx, HCx, hBs2, HBx⟩
    case measure => simp [intOf]; omega
  have dx : ((k : Int) == x) = true := beq_iff_eq.2 hxk
  have HYE : Hid (grpK n S.F k ++ [whereL n (setP S.F x)] = grpK n S.F (k + 1)) := Lib.hid (by rw [← hxk]; exact grpK_yes (by rw [HRP.out]; exact decide_eq_true hxk.symm))
  have z0 : wB.cell? ⟨bF, 0, none⟩ = some (.slice (some ⟨g, 0, none⟩) n n) := HCx.out.cell 0
  have HCL : Hid (∀ (i : Nat) (w' : World), i < n → Below wB.heap.size wB w' → Calls Tryd.prog 17 #[.int .i64 i, .pointer (some ⟨bF, 0, none⟩), .pointer (some ⟨bR, 0, none⟩)] w' fun e w'' => e = .returned (.bool (setP S.F x i)) ∧ Below w'.heap.size w' w'') := Lib.hid fun i w' hi hb' => groups1 S.F g 0 x n bF bR w' i hi HFL.out ((HFR.out.below HBx.out).below hb') ((HCx.out.below hb').cell 0) ((HCR.out.below hb').cell 0)
  clear hxk HRP
  go_wp2_with fail
  refine (indicesWhere_any n (setP S.F x) _ _ _ (by omega) ?c1 ?c2).mono ?_
  case c1 => intro args wx; kernel_rfl
  case c2 => intro i w' hi hb'; exact HCL.out i w' hi hb'
  rintro e w5 ⟨a5, n5, c5, rfl, hn5, ho5, hb5⟩
  have HG5 := Lib.hid (HGx.out.below hb5)
  have HC5 := Lib.hid (HCx.out.below hb5)
  have HB5 := Lib.hid (HBx.out.trans (hb5.mono HBx.out.size))
  have HR5 : Hid (Ow eI 1 w5 B 2 (.slice (GRow.mk a5 n5 c5 (whereL n (setP S.F x))).a n5 c5) n5 (whereL n (setP S.F x))) := Lib.hid (ho5.mono hBs2)
  have hB5s : B ≤ w5.heap.size := Nat.le_trans hBs2 hb5.size
  have h63 : q + 1 ≤ maxLen := by unfold maxLen; omega
  have hby : (q + 1) * 24 ≤ 140737488355328 := by omega
  obtain ⟨ys, hys⟩ : ∃ ys, rs ++ [(⟨a5, n5, c5, whereL n (setP S.F x)⟩ : GRow)] = ys := ⟨_, rfl⟩
  have HYS := Lib.hid hys
  have HMY : Hid (ys.map GRow.xs = grpK n S.F (k + 1)) := Lib.hid (by rw [← hys, List.map_append, HMR.out, ← HYE.out]; rfl)
  clear hys ho5 hb5 HGx HCx HBx HCR hBs2 y0 z0 HCL
  go_wp2_with (at_builtin; refine wpl_appH GRow.len (by decide) _ rfl (.tmp 34) (.tmp 39) 27 rfl 30 _ 24 rfl Tryd.underlying27 infoGRow B _ q _ rfl w5 _ _ rfl HG5.out.out (⟨a5, n5, c5, whereL n (setP S.F x)⟩ : GRow) rfl rfl (GRow.one _) h63 hby hB5s ys HYS ?_)
  intro a6 c6 w6 ho6 hb6 hs6 hk6
  have HG6 : Hid (GrA w6 B (.slice a6 (q + 1) c6) (q + 1) ys) := Lib.hid (by rw [← HYS.out] at ho6 ⊢; exact HG5.out.app HR5.out ho6 hk6)
  have HC6 := Lib.hid (HC5.out.belowN hb6 hltF)
  have HB6 := Lib.hid (HB5.out.trans (hb6.mono hwB))
  have hB6s : B ≤ w6.heap.size := by omega
  clear ho6 hb6 hk6
  go_wp2_with fail
  go_roundw
  case rel => exact ⟨k + 1, q + 1, a6, c6, ys, by omega, by omega, by go_num, rfl, HMY, HG6, HC6, hB6s, HB6⟩
  case measure => simp [intOf]; omega
end Go.Proofs.YtnioecigjpifnaaDoor
