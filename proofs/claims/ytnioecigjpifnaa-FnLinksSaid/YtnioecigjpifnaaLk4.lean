/-
  All links noted: the reference; whether links are consistent.
-/
import Derived.Test.YtnioecigjpifnaaLk3
import Derived.Test.YtnioecigjpifnaaAppL
namespace Go.Proofs.Ytnioecigjpifnaa
open Go.RowKit
set_option maxRecDepth 100000
set_option linter.unusedVariables false
set_option linter.unusedSimpArgs false
theorem infoL3 : (Try.prog.info? 2).map (fun i => (i.zero, i.size, i.bytes)) = some (some (.int .i64 0), 1, 8) := by kernel_rfl
/-- the reference's state while its rows are made -/
structure JI (B : Nat) (w0 w : World) (h bp n k : Nat) (v : Value) : Prop where
  o : Ow eI 1 w B 2 v k ((List.range k).map fun (i : Nat) => (i : Int))
  s : Ow eI 1 w B 2 (.slice (some ⟨h, 0, none⟩) n n) n (List.replicate n 0)
  c : CAt w bp #[v, .slice (some ⟨h, 0, none⟩) n n, .bool true] 80
  nv : v.ownBlock ≠ some h
  nb : v.ownBlock ≠ some bp
  hb : bp ≠ h
  hB : B ≤ h
  bB : B ≤ bp
  b : Below B w0 w
theorem JI.app {B : Nat} {w0 w w' : World} {h bp n k : Nat} {v : Value} (p : JI B w0 w h bp n k v) {g' c' : Nat} {ys : List Int} (hB : B ≤ w.heap.size)
    (ho : Ow eI 1 w' B 2 (.slice (some ⟨g', 0, none⟩) (k + 1) c') (k + 1) ys) (hys : ys = (List.range (k + 1)).map fun (i : Nat) => (i : Int)) (hb : Below B w w') (hl : v.ownBlock = some g' ∨ w.heap.size ≤ g') (hk : ∀ b, b < w.heap.size → v.ownBlock ≠ some b → w'.heap[b]? = w.heap[b]?) :
    CAt w' bp #[v, .slice (some ⟨h, 0, none⟩) n n, .bool true] 80 ∧ JI B w0 (w'.setCell ⟨bp, 0, none⟩ (.slice (some ⟨g', 0, none⟩) (k + 1) c')) h bp n (k + 1) (.slice (some ⟨g', 0, none⟩) (k + 1) c') := by
  subst hys
  have hs := (p.s.lt h rfl).2
  have hc := p.c.lt
  have e1 : g' ≠ h := fun e => by
    rcases hl with hl | hl
    · exact p.nv (by rw [hl, e])
    · omega
  have e2 : g' ≠ bp := fun e => by
    rcases hl with hl | hl
    · exact p.nb (by rw [hl, e])
    · omega
  have hC : CAt w' bp #[v, .slice (some ⟨h, 0, none⟩) n n, .bool true] 80 := (hk bp hc p.nb).trans p.c
  have hS : Ow eI 1 w' B 2 (.slice (some ⟨h, 0, none⟩) n n) n (List.replicate n 0) := p.s.same fun b hb2 => by
    have : h = b := by simpa [Value.ownBlock] using hb2
    subst this
    exact hk h hs p.nv
  refine ⟨hC, ho.setO2 e2 0 _, hS.setO2 (fun e => p.hb e.symm) 0 _, hC.set 0 _, by simpa [Value.ownBlock] using e1, by simpa [Value.ownBlock] using e2, p.hb, p.hB, p.bB, (p.b.trans hb).setCell (p := ⟨bp, 0, none⟩) p.bB _⟩
set_option maxHeartbeats 1000000 in
theorem l00Has_nil (x : Int) (w : World) : Calls Try.prog 63 #[.slice none 0 0, .int .i64 x] w fun e w' => e = .returned (.bool false) ∧ w = w' := by
  go_enter Try.func63, Try.ntmps63
  go_wp2_with fail
  go_loopw [5] (fun i wr => i = .int .i64 0 ∧ w = wr) (fun _ _ => 0)
  case atStart => exact ⟨rfl, rfl⟩
  case round =>
    obtain ⟨rfl, rfl⟩ := hrel
    go_wp2_with fail
    go_ret
    exact ⟨rfl, rfl⟩
set_option maxHeartbeats 8000000 in
theorem l20Join_any (n : Nat) (ls : List Lnk) (a : Option Addr) (m c : Nat) (w : World) (h1 : 1 ≤ n) (h10 : n ≤ 10) (hm : m ≤ 12) (hl : ls.length = m) (hok : ∀ l ∈ ls, LkOk n l) (hr : Rd Lnk.enc 3 w a ls) :
    Calls Try.prog 46 #[.int .i64 (n : Int), .slice a m c, .slice none 0 0] w fun e w' => ∃ g h bp cf, e = .returned (.pointer (some ⟨bp, 0, none⟩)) ∧ PJ w.heap.size w w' g h bp n cf n (lkJ n ls) := by
  have HL := Lib.hid hl
  have HO := Lib.hid hok
  have HR := Lib.hid hr
  obtain ⟨B, hB⟩ : ∃ B, w.heap.size = B := ⟨_, rfl⟩
  have HBW := Lib.hid hB
  have hBsz : B ≤ w.heap.size := by omega
  obtain ⟨zs, hzs⟩ : ∃ zs : List Int, List.replicate n (0 : Int) = zs := ⟨_, rfl⟩
  have HZ := Lib.hid hzs
  clear hl hok hr hzs
  go_enter Try.func46, Try.ntmps46
  rw [hB]
  clear hB
  go_wp2_with (at_make; refine wpl_make eI_len (by decide) _ rfl _ _ 39 rfl 2 (0 : Int) _ 8 rfl Try.underlying39 infoL3 .i64 .i64 _ _ n rfl rfl rfl rfl (by omega) (by unfold maxLen; omega) zs HZ ?_)
  intro w1 ho1 hb1 hs1
  have hJ : JI B w (w1.alloc (.cells #[.slice none 0 0, .slice (some ⟨B, 0, none⟩) n n, .bool true] 80)) B w1.heap.size n 0 (.slice none 0 0) := by
    have hbx : Below w1.heap.size w1 (w1.alloc (.cells #[.slice none 0 0, .slice (some ⟨B, 0, none⟩) n n, .bool true] 80)) := (Below.refl _ _).alloc (Nat.le_refl _) _
    rw [HBW.out, ← HZ.out] at ho1
    rw [HBW.out] at hb1 hs1
    exact ⟨Ow.nil _ _ _, ho1.below hbx, CAt.new _ _ _, by simp [Value.ownBlock], by simp [Value.ownBlock], by omega, Nat.le_refl _, by omega, hb1.trans (hbx.mono (by omega))⟩
  obtain ⟨w2, hw2⟩ : ∃ wx, w1.alloc (.cells #[.slice none 0 0, .slice (some ⟨B, 0, none⟩) n n, .bool true] 80) = wx := ⟨_, rfl⟩
  obtain ⟨bp, hbp⟩ : ∃ gx, w1.heap.size = gx := ⟨_, rfl⟩
  rw [hw2, hbp] at hJ
  have HW2 := Lib.hid hw2
  have HBP := Lib.hid hbp
  have HJ := Lib.hid hJ
  clear ho1 hb1 hs1 hJ hw2 hbp
  go_upto_region 2 with (fail)
  rw [HBW.out, HW2.out, HBP.out]
  clear HW2 HBP
  go_wp2_with fail
  go_loopw [8] (fun i wr => ∃ (k : Nat) (v : Value), k ≤ n ∧ i = .int .i64 k ∧ Hid (JI B w wr B bp n k v)) (fun i _ => n - (intOf i).toNat)
  case atStart => exact ⟨0, _, Nat.zero_le _, rfl, HJ⟩
  case round =>
  obtain ⟨k, v, hk, rfl, HJk⟩ := hrel
  obtain ⟨wA, hwA⟩ : ∃ wx, wx = wr := ⟨_, rfl⟩
  subst hwA
  by_cases hlt : k < n
  · have p0 : wA.cell? ⟨bp, 0, none⟩ = some v := HJk.out.c.cell 0
    have hsz : B ≤ wA.heap.size := Nat.le_trans hBsz HJk.out.b.size
    have h63 : k + 1 ≤ maxLen := by unfold maxLen; omega
    have hby : (k + 1) * 8 ≤ 140737488355328 := by omega
    obtain ⟨ys, hys⟩ : ∃ ys, ((List.range k).map fun (i : Nat) => (i : Int)) ++ [(k : Int)] = ys := ⟨_, rfl⟩
    have HYS := Lib.hid hys
    have HYR : Hid (ys = (List.range (k + 1)).map fun (i : Nat) => (i : Int)) := Lib.hid (by rw [← hys, List.range_succ, List.map_append]; rfl)
    clear hys
    go_wp2_with (at_builtin; refine wpl_appL eI_len (by decide) _ rfl (.tmp 23) (.tmp 25) 39 rfl 2 _ 8 rfl Try.underlying39 infoL3 B v k _ rfl wA _ _ rfl HJk.out.o (k : Int) rfl rfl (eI_one _) h63 hby hsz ys HYS ?_)
    intro g4 c4 w4 ho4 hb4 hl4 hk4
    obtain ⟨hC4, hJ4⟩ := HJk.out.app hsz ho4 HYR.out hb4 hl4 hk4
    have p4 : w4.cell? ⟨bp, 0, none⟩ = some v := hC4.cell 0
    have f4 : w4.frozen? ⟨bp, 0, none⟩ = false := hC4.free 0
    have HJ4 := Lib.hid hJ4
    clear ho4 hb4 hl4 hk4 hC4 hJ4 p0
    go_wp2_with fail
    go_roundw
    case rel => exact ⟨k + 1, _, by omega, by go_num, HJ4⟩
    case measure => simp [intOf]; omega
  obtain rfl : n = k := by omega
  obtain ⟨a', cf, hv⟩ := HJk.out.o.shape
  subst hv
  obtain ⟨g, rfl, hg0, hg1⟩ := HJk.out.o.at_ (by omega)
  have hPJ : PJ B w wA g B bp n cf n (lkJ n (ls.take 0)) := ⟨⟨HJk.out.o, HJk.out.s, by have h9 := HJk.out.nv; simpa [Value.ownBlock] using h9, hg0, Nat.le_refl _, HJk.out.b⟩, HJk.out.c, by have h9 := HJk.out.nb; intro e; exact h9 (by rw [e]; rfl), HJk.out.hb, HJk.out.bB⟩
  have HP0 := Lib.hid hPJ
  clear HJk HJ hPJ hg0 hg1
  go_wp2_with fail
  clear hlt hk
  go_loopw [9] (fun i wr => ∃ k : Nat, k ≤ m ∧ i = .int .i64 k ∧ Hid (PJ B w wr g B bp n cf n (lkJ n (ls.take k)))) (fun i _ => m - (intOf i).toNat)
  case atStart => exact ⟨0, Nat.zero_le _, rfl, HP0⟩
  case round =>
  obtain ⟨k, hk, rfl, HPk⟩ := hrel
  obtain ⟨wB, hwB⟩ : ∃ wx, wx = wr := ⟨_, rfl⟩
  subst hwB
  clear HP0
  by_cases hlt : k < m
  · obtain ⟨l, hlx⟩ : ∃ z, ls[k]? = some z := ⟨_, List.getElem?_eq_getElem (by rw [HL.out]; exact hlt)⟩
    have HLOK := Lib.hid (HO.out l (List.mem_of_getElem? hlx))
    have HLI := Lib.hid (lkJ_ok (n := n) (ls.take k) fun y hy => HO.out y (List.mem_of_mem_take hy))
    have HST0 : Hid (lkJ n (ls.take (k + 1)) = lkStep (lkJ n (ls.take k)) l) := Lib.hid (by rw [take_sn hlx]; exact lkJ_snoc _ _ _)
    have HM12 : Hid ((ls.take k).length ≤ 12) := Lib.hid (by rw [List.length_take]; omega)
    obtain ⟨b, ofs, hab, hC⟩ := (HR.out.below (by have h9 := HPk.out.t.b; rw [← HBW.out] at h9; exact h9)).addr (by rw [HL.out]; omega)
    subst hab
    have x0 := hC k l hlx _ (Below.refl _ _) 0 _ rfl
    rw [Nat.add_zero] at x0
    have x1 := hC k l hlx _ (Below.refl _ _) 1 _ rfl
    have x2 := hC k l hlx _ (Below.refl _ _) 2 _ rfl
    have j0 : (0 : Int) ≤ (k : Nat) := by omega
    have j1 : ((k : Nat) : Int) < (m : Nat) := by omega
    clear hC hlx
    go_wp2_with fail
    refine (l00Has_nil _ _).mono ?_
    rintro e wz ⟨rfl, rfl⟩
    go_wp2_with fail
    refine (add_any B w wB g B bp n cf n (lkJ n (ls.take k)) (ls.take k) l h10 HM12.out hBsz HLI.out HLOK.out HPk.out).mono ?_
    rintro e wz ⟨rfl, hP2⟩
    have HP2 := Lib.hid hP2
    clear hP2
    go_wp2_with fail
    go_roundw
    case rel => exact ⟨k + 1, by omega, by go_num, Lib.hid (by rw [HST0.out]; exact HP2.out)⟩
    case measure => simp [intOf]; omega
  · obtain rfl : m = k := by omega
    have HE : Hid (ls.take m = ls) := Lib.hid (List.take_of_length_le (by rw [HL.out]; omega))
    rw [HE.out] at HPk
    go_wp2_with fail
    go_ret
    exact ⟨g, B, bp, cf, rfl, HPk.out⟩
set_option maxHeartbeats 1000000 in
theorem spConsistent (n : Nat) (ls : List Lnk) (a : Option Addr) (m c : Nat) (w : World) (h1 : 1 ≤ n) (h10 : n ≤ 10) (hm : m ≤ 12) (hl : ls.length = m) (hok : ∀ l ∈ ls, LkOk n l) (hr : Rd Lnk.enc 3 w a ls) :
    Calls Try.prog 22 #[.int .i64 (n : Int), .slice a m c] w fun e w' => e = .returned (.tuple #[.bool (lkJ n ls).ok, .int .i64 0]) ∧ Below w.heap.size w w' := by
  have HL := Lib.hid hl
  have HO := Lib.hid hok
  have HR := Lib.hid hr
  clear hl hok hr
  go_enter Try.func22, Try.ntmps22
  go_wp2_with fail
  refine (l20Ok_ok n ls a m c _ h1 h10 hm HL.out HO.out HR.out).mono ?_
  rintro e w1 ⟨rfl, hb1⟩
  go_wp2_with fail
  refine (l20Join_any n ls a m c _ h1 h10 hm HL.out HO.out (HR.out.below hb1)).mono ?_
  rintro e w2 ⟨g, h, bp, cf, rfl, hP⟩
  have p2 : w2.cell? ⟨bp, 2, none⟩ = some (.bool (lkJ n ls).ok) := hP.c.cell 2
  have HB := Lib.hid (hb1.trans (hP.t.b.mono hb1.size))
  clear hP hb1
  go_wp2_with fail
  go_ret2
  exact ⟨rfl, HB.out⟩
set_option maxHeartbeats 1000000 in
theorem imConsistent (n : Nat) (ls : List Lnk) (a : Option Addr) (m c : Nat) (w : World) (h1 : 1 ≤ n) (h10 : n ≤ 10) (hm : m ≤ 12) (hl : ls.length = m) (hok : ∀ l ∈ ls, LkOk n l) (hr : Rd Lnk.enc 3 w a ls) :
    Calls Try.prog 17 #[.int .i64 (n : Int), .slice a m c] w fun e w' => e = .returned (.tuple #[.bool (lkJ n ls).ok, .int .i64 0]) ∧ Below w.heap.size w w' := by
  have HL := Lib.hid hl
  have HO := Lib.hid hok
  have HR := Lib.hid hr
  clear hl hok hr
  go_enter Try.func17, Try.ntmps17
  go_wp2_with fail
  refine (validLinks_ok n ls a m c _ h1 h10 hm HL.out HO.out HR.out).mono ?_
  rintro e w1 ⟨rfl, hb1⟩
  go_wp2_with fail
  refine (offsets_any n ls a m c _ h1 h10 hm HL.out HO.out (HR.out.below hb1)).mono ?_
  rintro e w2 ⟨g, h, rfl, hT⟩
  have HB := Lib.hid (hb1.trans (hT.b.mono hb1.size))
  clear hT hb1
  go_wp2_with fail
  go_ret2
  exact ⟨rfl, HB.out⟩
end Go.Proofs.Ytnioecigjpifnaa
