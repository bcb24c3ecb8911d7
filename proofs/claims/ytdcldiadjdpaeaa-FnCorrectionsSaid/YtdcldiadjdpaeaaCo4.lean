/-
  Rows of truth values; what one common estimate adds to an observer's numbers.
-/
import Derived.Test.YtdcldiadjdpaeaaCo2
import Derived.Test.YtdcldiadjdpaeaaTwo
import Derived.Test.YtdcldiadjdpaeaaAp1
import Derived.Deep.RegionLaw
import Derived.Deep.CutRange
import Derived.Deep.Light
namespace Go.Proofs.Ytdcldiadjdpaeaa
open Go.RowKit
set_option maxRecDepth 100000
set_option linter.unusedVariables false
set_option linter.unusedSimpArgs false
theorem makeBo (n : Nat) (hn : n ≤ 1000000) : ∃ CS : Array Value, (∀ w : World, (Instr.makeSlice 42 (.int .i64 (n : Int)) (.int .i64 (n : Int))).run Try.prog w = .ok (.slice (some ⟨w.heap.size, 0, none⟩) n n) (w.alloc (.cells CS 4))) ∧
    ∀ w : World, Ow eBo 1 (w.alloc (.cells CS 4)) w.heap.size 4 (.slice (some ⟨w.heap.size, 0, none⟩) n n) n (List.replicate n false) := by
  have hinfo : (Try.prog.info? 4).map (fun i => (i.zero, i.size, i.bytes)) = some (some (.bool false), 1, 1) := by kernel_rfl
  obtain ⟨i0, hi, hz0, hz1, hz2⟩ := info_parts hinfo
  have hrun := fun w : World => run_make (P := Try.prog) w 42 4 i0 (.bool false) Try.underlying42 hi hz0 .i64 .i64 (n : Int) (n : Int) (by omega) (Int.le_refl _) (by rw [hz2]; omega) (by omega)
  refine ⟨madeCells (Value.bool false).cells ((n : Int).toNat * i0.size), fun w => hrun w, fun w => ?_⟩
  obtain ⟨w', hrun', hown, _⟩ := run_make_full (P := Try.prog) (w := w) w.heap.size 42 4 i0 (.bool false) 1 Try.underlying42 hi hz0 hz1 .i64 .i64 n (by rw [hz2]; omega) (by unfold maxLen; omega) (Nat.le_refl _)
  have e := (hrun w).symm.trans hrun'
  injection e with _ e2
  rw [e2]
  rw [show (Value.bool false).cells = (eBo false).toArray from rfl, madeCells_flat eBo_len (by decide)] at hown
  exact hown
theorem flatBo_set : ∀ (L : List Bool) (i : Nat) (x : Bool), (L.flatMap eBo).set i (.bool x) = (L.set i x).flatMap eBo
  | [], i, x => by simp
  | y :: L, 0, x => by simp [eBo]
  | y :: L, i + 1, x => by
    have := flatBo_set L i x
    simp only [List.flatMap_cons, eBo, List.singleton_append, List.set_cons_succ]
    rw [this]
theorem Ow.setBo {w : World} {base e g n cap : Nat} {xs : List Bool} (h : Ow eBo 1 w base e (.slice (some ⟨g, 0, none⟩) n cap) n xs) (i : Nat) (x : Bool) : Ow eBo 1 (w.setCell ⟨g, i, none⟩ (.bool x)) base e (.slice (some ⟨g, 0, none⟩) n cap) n (xs.set i x) := by
  have := (World.ownsRow.stored h i (.bool x)).1
  rw [flatBo_set] at this
  exact this
theorem Ow.cellBo {w : World} {base e g n cap i : Nat} {xs : List Bool} {x : Bool} (ho : Ow eBo 1 w base e (.slice (some ⟨g, 0, none⟩) n cap) n xs) (hx : xs[i]? = some x) : w.cell? ⟨g, i, none⟩ = some (.bool x) := by
  have hr := ho.rd eBo_len (by decide)
  obtain ⟨b, o, he, hc⟩ := hr.at1 hx (u := .bool x) rfl
  cases he
  have h9 := hc
  rw [Nat.zero_add] at h9
  exact h9.2
set_option maxHeartbeats 1000000 in
theorem copyBo (xs : List Bool) (a : Option Addr) (n c : Nat) (w : World) (hn : n ≤ 1048576) (hl : xs.length = n) (hr : Rd eBo 1 w a xs) : Calls Try.prog 44 #[.slice a n c] w fun e w' => ∃ a' c', e = .returned (.slice a' n c') ∧ Ow eBo 1 w' w.heap.size 4 (.slice a' n c') n xs ∧ Below w.heap.size w w' := by
  have HL := Lib.hid hl
  clear hl
  have hb0 := below_built w 4
  have ho := Ow.built eBo 1 w 4
  have hr' := hr.below hb0
  have hsz : w.heap.size ≤ (w.alloc (.cells #[] 4)).heap.size := hb0.size
  have hn0 : 0 + n ≤ maxLen := by unfold maxLen; omega
  have hn1 : (0 + n) * 1 ≤ 140737488355328 := by omega
  have hy : Hid ([] ++ xs = xs) := Lib.hid rfl
  go_enter Try.func44, Try.ntmps44
  go_wp2_with (at_builtin; refine wpl_apps eBo_len (by decide) eBo_one _ rfl (.tmp 3) (.tmp 4) 42 rfl 4 (.bool false) 1 rfl Try.underlying42 infoBo w.heap.size _ 0 _ rfl ho xs n HL.out a c rfl hr' hn0 hn1 hsz xs hy ?_)
  intro a' c' w' ho' hb'
  go_wp2_with fail
  go_ret
  exact ⟨a', c', by simp, ho', hb0.trans hb'⟩
/-- the rows that are read while an observer's numbers are gathered -/
structure SeeR (w : World) (B n gb gs hb hs cb cs : Nat) (S : List Int) (K : List Bool) : Prop where
  sz : w.heap.size = B
  bb : CAt w gb #[.slice (some ⟨hb, 0, none⟩) n cb] 42
  bs : CAt w gs #[.slice (some ⟨hs, 0, none⟩) n cs] 27
  lb : hb < B
  ls : hs < B
  kb : ∀ i, i < n → w.cell? ⟨hb, i, none⟩ = some (.bool (K.getD i false))
  ks : ∀ i, i < n → w.cell? ⟨hs, i, none⟩ = some (.int .i64 (S.getD i 0))
  bd : ∀ i, -100000 ≤ S.getD i 0 ∧ S.getD i 0 ≤ 100000
theorem nmP_yes {S : List Int} {K : List Bool} {pre : List (Int × Int)} {a d : Int} (h : kat K a = true) : nmP S K pre ++ [sat S a - d] = nmP S K (pre ++ [(a, d)]) := by
  rw [nmP_app]; congr 1; simp [nmP, h]
theorem nmP_no {S : List Int} {K : List Bool} {pre : List (Int × Int)} {a d : Int} (h : kat K a = false) : nmP S K (pre ++ [(a, d)]) = nmP S K pre := by
  rw [nmP_app]; simp [nmP, h]
set_option maxHeartbeats 8000000 in
theorem spStep (B n gb gn gs hb hs cb cs : Nat) (S : List Int) (K : List Bool) (pre : List (Int × Int)) (p : Int × Int) (w0 w : World) (hlen : pre.length ≤ 1000) (hn : n ≤ 40) (hR : SeeR w0 B n gb gs hb hs cb cs S K) (hp0 : 0 ≤ p.1) (hp1 : p.1 < n) (hd0 : -2000 ≤ p.2) (hd1 : p.2 ≤ 2000) (hB : Below B w0 w) (hx : BoxL B w gn (nmP S K pre)) :
    Calls Try.prog 45 #[.int .i64 p.1, .int .i64 p.2, .pointer (some ⟨gb, 0, none⟩), .pointer (some ⟨gn, 0, none⟩), .pointer (some ⟨gs, 0, none⟩)] w fun e w' => e = .returned (.tuple #[]) ∧ Below B w0 w' ∧ BoxL B w' gn (nmP S K (pre ++ [p])) := by
  obtain ⟨g', m, c, hbx⟩ := hx
  obtain ⟨a, d⟩ := p
  simp only at hp0 hp1 hd0 hd1 ⊢
  have hsz := hR.sz
  have hBsz : B ≤ w.heap.size := by have := hB.size; omega
  have hi : a.toNat < n := by omega
  have cb1 : w.cell? ⟨gb, 0, none⟩ = some (.slice (some ⟨hb, 0, none⟩) n cb) := (hR.bb.belowN hB (by have := hR.bb.lt; omega)).cell 0
  have cb2 : w.cell? ⟨hb, a.toNat, none⟩ = some (.bool (kat K a)) := (hB.cell (p := ⟨hb, a.toNat, none⟩) hR.lb).trans (hR.kb _ hi)
  have cs1 : w.cell? ⟨gs, 0, none⟩ = some (.slice (some ⟨hs, 0, none⟩) n cs) := (hR.bs.belowN hB (by have := hR.bs.lt; omega)).cell 0
  have cs2 : w.cell? ⟨hs, a.toNat, none⟩ = some (.int .i64 (sat S a)) := (hB.cell (p := ⟨hs, a.toNat, none⟩) hR.ls).trans (hR.ks _ hi)
  have cn1 : w.cell? ⟨gn, 0, none⟩ = some (.slice (some ⟨g', 0, none⟩) m c) := hbx.box.cell 0
  have hbd : -100000 ≤ sat S a ∧ sat S a ≤ 100000 := hR.bd a.toNat
  have hml : m ≤ 1000 := by
    have h1 := hbx.len
    have h2 : (nmP S K pre).length ≤ pre.length := by unfold nmP; rw [List.length_map]; exact List.length_filter_le _ _
    omega
  have HBX := Lib.hid hbx
  have HBB := Lib.hid hB
  clear hR hbx hB
  cases hk : kat K a with
  | false =>
    have HE := Lib.hid (nmP_no (S := S) (pre := pre) (d := d) hk)
    rw [hk] at cb2
    clear cs1 cs2 cn1 hk
    go_enter Try.func45, Try.ntmps45
    go_wp2_with fail
    go_end0
    exact ⟨rfl, HBB.out, by rw [HE.out]; exact ⟨_, _, _, HBX.out⟩⟩
  | true =>
    have HE := Lib.hid (nmP_yes (S := S) (pre := pre) (d := d) hk)
    rw [hk] at cb2
    obtain ⟨sv, hsv⟩ : ∃ sv, sat S a = sv := ⟨_, rfl⟩
    rw [hsv] at cs2 hbd HE
    obtain ⟨X, hX⟩ : ∃ X, sv - d = X := ⟨_, rfl⟩
    have iw : IntKind.i64.wrap (sv - d) = X := (IntWalk.i64_in _ (by omega)).trans hX
    rw [hX] at HE
    have dn1 : w.drew.cell? ⟨gn, 0, none⟩ = some (.slice (some ⟨g', 0, none⟩) m c) := cn1
    have ds1 : w.drew.cell? ⟨gs, 0, none⟩ = some (.slice (some ⟨hs, 0, none⟩) n cs) := cs1
    have ds2 : w.drew.cell? ⟨hs, a.toNat, none⟩ = some (.int .i64 sv) := cs2
    have hbV : Below w.heap.size w (w.alloc (.cells #[.int .i64 X] 2)).drew := ((Below.refl _ _).alloc (Nat.le_refl _) _).drew
    have HXV := Lib.hid (HBX.out.below hbV)
    have hcV : (w.alloc (.cells #[.int .i64 X] 2)).drew.cell? ⟨w.heap.size, 0, none⟩ = some (.int .i64 X) := cell_mn w _ _
    have dn2 : (w.alloc (.cells #[.int .i64 X] 2)).drew.cell? ⟨gn, 0, none⟩ = some (.slice (some ⟨g', 0, none⟩) m c) := HXV.out.box.cell 0
    have hszV : B ≤ (w.alloc (.cells #[.int .i64 X] 2)).drew.heap.size := Nat.le_trans hBsz hbV.size
    have h63 : m + 1 ≤ maxLen := by unfold maxLen; omega
    have hby : (m + 1) * 8 ≤ 140737488355328 := by omega
    have HBV := Lib.hid (HBB.out.trans (hbV.mono hBsz))
    obtain ⟨ys, hys⟩ : ∃ ys, nmP S K (pre ++ [(a, d)]) = ys := ⟨_, rfl⟩
    rw [hys] at HE
    have HYS := Lib.hid hys
    clear hk hsv hX hys hbV
    go_enter Try.func45, Try.ntmps45
    go_upto_region 1 with (fail)
    go_wp2_with fail
    go_region_law (first | (go_loud (refine step_ap1 _ rfl (.tmp 11) (.tmp 18) 27 rfl 2 Try.underlying27 infoI64co B _ m _ rfl HXV.out.row X _ rfl hcV h63 hby hszV ys HE ?_); intro a9 c9 w9 ho9 hb9 hat9 hot9; obtain ⟨hC, hP, hB2⟩ := HXV.out.app ho9 hb9 hot9; have cc := hC.cell 0; have cf := hC.free 0; have HP := Lib.hid hP; have HB2 := Lib.hid hB2; clear hP hB2 hC) | fail)
    all_goals
      go_wp2_with fail
      go_end0
      exact ⟨rfl, HBV.out.trans HB2.out, by rw [HYS.out]; exact ⟨_, _, _, HP.out⟩⟩
end Go.Proofs.Ytdcldiadjdpaeaa
