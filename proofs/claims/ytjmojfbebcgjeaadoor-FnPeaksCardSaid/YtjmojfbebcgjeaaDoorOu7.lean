/-
  The program's alerts.
-/
import Derived.Test.YtjmojfbebcgjeaaDoorOu6
import Derived.Test.YtjmojfbebcgjeaaDoorQTail
namespace Go.Proofs.YtjmojfbebcgjeaaDoor
open Go.RowKit
set_option maxRecDepth 100000
/-- inside an alert that began at k: q points are read, the peak is PK -/
def InA (W : Int → Int → Int) (s : Nat → Bool) (ps : List Pt) (k : Nat) (p : Pt) (q : Nat) (PK : Int) : Prop := (q = k ∧ PK = p.mag) ∨ (k < q ∧ s q = true ∧ alN W s ps q = alN W s ps k ++ [⟨p.time, -1, PK⟩])
theorem InA.step {W : Int → Int → Int} {s : Nat → Bool} {ps : List Pt} {k : Nat} {p : Pt} {q : Nat} {PK : Int} {x : Pt} (h : InA W s ps k p q PK) (hW : ∀ a, W a a = a) (hp : ps[k]? = some p) (hk : s k = false) (hx : ps[q]? = some x) (hs : s (q + 1) = true) : InA W s ps k p (q + 1) (W PK x.mag) := by
  refine .inr ⟨?_, hs, ?_⟩
  · rcases h with ⟨h1, _⟩ | ⟨h1, _⟩ <;> omega
  · rcases h with ⟨rfl, rfl⟩ | ⟨h1, h2, h3⟩
    · rw [hp] at hx; cases hx
      rw [alN_new hp hs hk, hW]
    · rw [alN_go hx hs h2 h3]
theorem InA.stop {W : Int → Int → Int} {s : Nat → Bool} {ps : List Pt} {k : Nat} {p : Pt} {q : Nat} {PK : Int} {x : Pt} (h : InA W s ps k p q PK) (hk : s (k + 1) = true) (hx : ps[q]? = some x) (hs : s (q + 1) = false) : alN W s ps (q + 1) = alN W s ps k ++ [⟨p.time, x.time, PK⟩] := by
  rcases h with ⟨rfl, _⟩ | ⟨_, h2, h3⟩
  · rw [hk] at hs; cases hs
  · rw [alN_end hx hs h2 h3]
theorem InA.fin {W : Int → Int → Int} {s : Nat → Bool} {ps : List Pt} {k : Nat} {p : Pt} {q : Nat} {PK : Int} (h : InA W s ps k p q PK) (hk : k < q) : alN W s ps q = alN W s ps k ++ [⟨p.time, -1, PK⟩] := by
  rcases h with ⟨rfl, _⟩ | ⟨_, _, h3⟩
  · omega
  · exact h3
set_option maxHeartbeats 8000000 in
theorem alerts_any (s : Nat → Bool) (W : Int → Int → Int) (f : FuncId) (cs : Array Value) (hW : ∀ a : Int, W a a = a) (ps : List Pt) (a ab : Option Addr) (n c cb : Nat) (w : World) (hl : ps.length = n) (hcu : CuOk ps) (hs0 : s 0 = false) (hr : Rd Pt.enc 2 w a ps) (hb : Rd eBo 1 w ab (stN s n))
    (hcf : ∀ (args : Array Value) (wx : World), (callFunc f args).run Tryd.prog wx = .ok (.enter f args) wx)
    (hf : ∀ (x y : Int) (w' : World), Calls Tryd.prog f (#[.int .i64 x, .int .i64 y] ++ cs) w' fun e w'' => e = .returned (.int .i64 (W x y)) ∧ Below w'.heap.size w' w'') :
    Calls Tryd.prog 92 #[.slice a n c, .slice ab n cb, .func (.func f) #[] cs] w (AlP w (alN W s ps n)) := by
  have HL := Lib.hid hl
  have HR := Lib.hid hr
  have HRB := Lib.hid hb
  have HCU := Lib.hid hcu
  have HS0 := Lib.hid hs0
  have HF := Lib.hid hf
  have HWW := Lib.hid hW
  have hn1 : n ≤ 100 := hl ▸ hcu.len
  have HO0 := Lib.hid (Ow.built Alt.enc 3 w 60)
  have HB0 : Hid (Below w.heap.size w (w.alloc (.cells #[] 60))) := Lib.hid (below_built w 60)
  clear hl hr hb hcu hs0 hf hW
  go_enter Tryd.func92, Tryd.ntmps92
  go_wp2_with fail
  go_loopw [7, 8] (fun out i wr => ∃ (k N : Nat) (a' : Option Addr) (c' : Nat), k ≤ n + 1 ∧ i = .int .i64 k ∧ out = .slice a' N c' ∧ N ≤ k ∧ Hid (Ow Alt.enc 3 wr w.heap.size 60 (.slice a' N c') N (alN W s ps (min k n))) ∧ Hid (k ≤ n → s k = false) ∧ Hid (Below w.heap.size w wr)) (fun _ i _ => n + 1 - (intOf i).toNat)
  case atStart => exact ⟨0, 0, _, _, Nat.zero_le _, rfl, rfl, Nat.zero_le _, Lib.hid (by rw [Nat.zero_min]; exact HO0.out), Lib.hid fun _ => HS0.out, HB0⟩
  case round =>
    obtain ⟨k, N, a', c', hk, rfl, rfl, hN, HO, HSK, HB⟩ := hrel
    have hsz : w.heap.size ≤ wr.heap.size := HB.out.size
    by_cases hlt : k < n
    · have hmin : min k n = k := by omega
      rw [hmin] at HO
      have HS0k := Lib.hid (HSK.out (by omega))
      obtain ⟨p, hp⟩ : ∃ z, ps[k]? = some z := ⟨_, List.getElem?_eq_getElem (by rw [HL.out]; exact hlt)⟩
      have HP := Lib.hid hp
      obtain ⟨b1, o1, hab1, hbl1, hc1⟩ := HR.out k p hp
      have x0 := hc1 0 _ rfl
      have x1 := hc1 1 _ rfl
      rw [Nat.add_zero] at x0
      subst hab1
      obtain ⟨b2, o2, hab2, hbl2, hc2⟩ := HRB.out k (s (k + 1)) (stN_get s n k hlt)
      have v0 := hc2 0 _ rfl
      rw [Nat.add_zero, Nat.mul_one] at v0
      subst hab2
      have HPC : Hid (∀ wq, Below w.heap.size w wq → wq.cell? ⟨b1, o1 + k * 2, none⟩ = some (.int .i64 p.time) ∧ wq.cell? ⟨b1, o1 + k * 2 + 1, none⟩ = some (.int .i64 p.mag)) := Lib.hid fun wq hq => ⟨(hq.cell (p := ⟨b1, _, none⟩) hbl1).trans x0, (hq.cell (p := ⟨b1, _, none⟩) hbl1).trans x1⟩
      have HRP : Hid (∀ (q : Nat) (x : Pt) wq, ps[q]? = some x → Below w.heap.size w wq → wq.cell? ⟨b1, o1 + q * 2, none⟩ = some (.int .i64 x.time) ∧ wq.cell? ⟨b1, o1 + q * 2 + 1, none⟩ = some (.int .i64 x.mag)) := Lib.hid fun q x wq hx hq => by
        obtain ⟨b4, o4, hab4, _, hc4⟩ := (HR.out.below hq) q x hx
        simp only [Option.some.injEq, Addr.mk.injEq, and_true] at hab4
        obtain ⟨rfl, rfl⟩ := hab4
        exact ⟨hc4 0 _ rfl, hc4 1 _ rfl⟩
      have HRV : Hid (∀ (q : Nat) wq, q < n → Below w.heap.size w wq → wq.cell? ⟨b2, o2 + q, none⟩ = some (.bool (s (q + 1)))) := Lib.hid fun q wq hx hq => by
        obtain ⟨b4, o4, hab4, _, hc4⟩ := (HRB.out.below hq) q _ (stN_get s n q hx)
        simp only [Option.some.injEq, Addr.mk.injEq, and_true] at hab4
        obtain ⟨rfl, rfl⟩ := hab4
        have h := hc4 0 _ rfl
        rwa [Nat.add_zero, Nat.mul_one] at h
      have zb := HRV.out k wr hlt HB.out
      clear hp hc1 hc2 x0 x1 v0 hmin
      cases hs1 : s (k + 1) with
      | false =>
        rw [hs1] at zb
        have HOFF := Lib.hid (alN_off (W := W) HP.out hs1 HS0k.out)
        have HS1 := Lib.hid hs1
        clear hs1
        go_wp2_with fail
        go_roundw
        case rel =>
          refine ⟨k + 1, N, a', c', by omega, by go_num, rfl, by omega, ?_, Lib.hid fun _ => HS1.out, HB⟩
          have hmin : min (k + 1) n = k + 1 := by omega
          rw [hmin, HOFF.out]; exact HO
        case measure => simp [intOf]; omega
      | true =>
        rw [hs1] at zb
        have HS1 := Lib.hid hs1
        clear hs1
        obtain ⟨x0, x1⟩ := HPC.out wr HB.out
        have hki : (0 : Int) ≤ k := by omega
        have hkn : (k : Int) < n := by omega
        go_upto_region 6 with (fail)
        go_cut [9] (fun s9 wx => ∃ g : Nat, s9 = .pointer (some ⟨g, 0, none⟩) ∧ Hid (CAt wx g #[.int .i64 p.time, .int .i64 (-1), .int .i64 p.mag] 60) ∧ Hid (Below wr.heap.size wr wx) ∧ wr.heap.size ≤ g)
        case first =>
          have HX := Lib.hid (bx1 wr.drew #[.int .i64 p.time, .int .i64 (-1), .int .i64 p.mag] 60)
          have HDA : Hid (Below w.heap.size w wr.drew) := Lib.hid HB.out.drew
          have hszd : w.heap.size ≤ wr.drew.heap.size := HDA.out.size
          go_region_held3 (fun wq : World => wq.cell? ⟨b1, o1 + k * 2, none⟩ = some (.int .i64 p.time) ∧ wq.cell? ⟨b1, o1 + k * 2 + 1, none⟩ = some (.int .i64 p.mag)) (first | (go_keep; done) | exact HPC.out _ HDA.out | exact HPC.out _ (HDA.out.alloc hszd _) | fail) (fail)
          go_wp2_with fail
          go_meet
          exact ⟨_, rfl, Lib.hid HX.out.1, Lib.hid ((Below.refl _ _).drew.trans HX.out.2.1), Nat.le_refl _⟩
        case rest =>
          obtain ⟨g, rfl, HC, HBX, hgw⟩ := hcut
          have HOB := Lib.hid (HO.out.below HBX.out)
          have HBB := Lib.hid (HB.out.trans (HBX.out.mono hsz))
          have HG : Hid (∀ q, Value.ownBlock (.slice a' N c') = some q → q ≠ g) := Lib.hid fun q hq => by have := (HO.out.lt q hq).2; omega
          have hwg : w.heap.size ≤ g := Nat.le_trans hsz hgw
          clear x0 x1 zb hki hkn
          go_wp2_with fail
          go_loopw [8] (fun i wr => ∃ (q : Nat) (PK : Int), k ≤ q ∧ q ≤ n ∧ i = .int .i64 q ∧ Hid (InA W s ps k p q PK) ∧ Hid (CAt wr g #[.int .i64 p.time, .int .i64 (-1), .int .i64 PK] 60) ∧ Hid (Ow Alt.enc 3 wr w.heap.size 60 (.slice a' N c') N (alN W s ps k)) ∧ Hid (Below w.heap.size w wr)) (fun i _ => n - (intOf i).toNat)
          case atStart => exact ⟨k, p.mag, Nat.le_refl _, by omega, rfl, Lib.hid (.inl ⟨rfl, rfl⟩), HC, HOB, HBB⟩
          case round =>
            obtain ⟨q, PK, hkq, hq, rfl, HI, HCq, HOq, HBq⟩ := hrel
            have hszq : w.heap.size ≤ wr.heap.size := HBq.out.size
            have c0 : wr.cell? ⟨g, 0, none⟩ = some (.int .i64 p.time) := HCq.out.cell 0
            have c1 : wr.cell? ⟨g, 1, none⟩ = some (.int .i64 (-1)) := HCq.out.cell 1
            have c2 : wr.cell? ⟨g, 2, none⟩ = some (.int .i64 PK) := HCq.out.cell 2
            by_cases hqn : q < n
            · obtain ⟨x, hx⟩ : ∃ z, ps[q]? = some z := ⟨_, List.getElem?_eq_getElem (by rw [HL.out]; exact hqn)⟩
              have HX := Lib.hid hx
              have zb := HRV.out q wr hqn HBq.out
              have hqi : (0 : Int) ≤ q := by omega
              have hqn2 : (q : Int) < n := by omega
              clear hx
              cases hs2 : s (q + 1) with
              | true =>
                rw [hs2] at zb
                have HIN := Lib.hid (HI.out.step HWW.out HP.out HS0k.out HX.out hs2)
                have HDA : Hid (Below w.heap.size w wr.drew) := Lib.hid HBq.out.drew
                clear hs2
                have n0 := cls_cell (w0 := wr) (B := wr.heap.size) (p := ⟨g, 2, none⟩) HCq.out.lt c2
                have h1 := HRP.out q x wr HX.out HBq.out
                have n1 := cls_cell (w0 := wr) (B := wr.heap.size) (p := ⟨b1, o1 + q * 2, none⟩) (show b1 < wr.heap.size by omega) h1.1
                have n2 := cls_cell (w0 := wr) (B := wr.heap.size) (p := ⟨b1, o1 + q * 2 + 1, none⟩) (show b1 < wr.heap.size by omega) h1.2
                clear h1 c0 c1 c2
                go_upto_region 9 with (fail)
                refine wp_region_cls_tail wr (B := wr.heap.size) 10 (by kernel_rfl) (by kernel_rfl) (Below.refl _ _) ?_
                simp only [List.take_succ_cons, List.take_zero, List.drop_succ_cons, List.drop_zero]
                repeat (go_big_quiet_step (first | (exact cls_call (Nat.le_refl _) (HF.out PK x.mag _))))
                refine wpQuiet_nil ?_
                intro _ hw'
                obtain ⟨uq, hw''⟩ := hw'
                subst hw''
                have hb4 := uq.ok
                generalize uq.w = w4 at hb4
                have HB4 := Lib.hid hb4
                have HC4 := Lib.hid (HCq.out.below HB4.out)
                clear hb4 n0 n1 n2
                have d2 : w4.cell? ⟨g, 2, none⟩ = some (.int .i64 PK) := HC4.out.cell 2
                have kf := HC4.out.free 2
                go_wp2_with fail
                have HC5 := Lib.hid (HC4.out.set 2 (.int .i64 (W PK x.mag)))
                have HO4 := Lib.hid (HOq.out.below HB4.out)
                have HB5 := Lib.hid ((HBq.out.trans (HB4.out.mono hszq)).setCell (p := ⟨g, 2, none⟩) hwg (.int .i64 (W PK x.mag)))
                have HO5 : Hid (Ow Alt.enc 3 (w4.setCell ⟨g, 2, none⟩ (.int .i64 (W PK x.mag))) w.heap.size 60 (.slice a' N c') N (alN W s ps k)) := Lib.hid (HO4.out.same fun b hb => Below.heap_setCell _ _ _ _ (HG.out b hb))
                obtain ⟨w5, hw5⟩ : ∃ w5, w4.setCell ⟨g, 2, none⟩ (.int .i64 (W PK x.mag)) = w5 := ⟨_, rfl⟩
                rw [hw5] at HC5 HB5 HO5 ⊢
                clear hw5 d2 kf zb
                go_wp2_with fail
                go_roundw
                case rel => exact ⟨q + 1, W PK x.mag, by omega, by omega, by go_num, HIN, HC5, HO5, HB5⟩
                case measure => simp [intOf]; omega
              | false =>
                rw [hs2] at zb
                have HS2 := Lib.hid hs2
                have HEND := Lib.hid (HI.out.stop HS1.out HX.out hs2)
                obtain ⟨y0, y1⟩ := HRP.out q x wr HX.out HBq.out
                have kf := HCq.out.free 1
                have HC5 := Lib.hid (HCq.out.set 1 (.int .i64 x.time))
                have HB5 := Lib.hid (HBq.out.setCell (p := ⟨g, 1, none⟩) hwg (.int .i64 x.time))
                have HO5 : Hid (Ow Alt.enc 3 (wr.setCell ⟨g, 1, none⟩ (.int .i64 x.time)) w.heap.size 60 (.slice a' N c') N (alN W s ps k)) := Lib.hid (HOq.out.same fun b hb => Below.heap_setCell _ _ _ _ (HG.out b hb))
                clear hs2
                go_upto_region 12 with (fail)
                obtain ⟨w5, hw5⟩ : ∃ w5, wr.setCell ⟨g, 1, none⟩ (.int .i64 x.time) = w5 := ⟨_, rfl⟩
                rw [hw5] at HC5 HB5 HO5 ⊢
                clear hw5 c0 c1 c2 y0 y1 zb kf
                have c0 : w5.cell? ⟨g, 0, none⟩ = some (.int .i64 p.time) := HC5.out.cell 0
                have c1 : w5.cell? ⟨g, 1, none⟩ = some (.int .i64 x.time) := HC5.out.cell 1
                have c2 : w5.cell? ⟨g, 2, none⟩ = some (.int .i64 PK) := HC5.out.cell 2
                have h63 : N + 1 ≤ maxLen := by unfold maxLen; omega
                have hby : (N + 1) * 24 ≤ 140737488355328 := by omega
                obtain ⟨ys, hys⟩ : ∃ ys, alN W s ps k ++ [(⟨p.time, x.time, PK⟩ : Alt)] = ys := ⟨_, rfl⟩
                have HYS := Lib.hid hys
                have hsz9 : w.heap.size ≤ w5.heap.size := HB5.out.size
                clear hys
                go_wp2_with (at_builtin; refine wpl_app Alt.len (by decide) _ rfl (.tmp 65) (.tmp 67) 51 rfl 60 _ 24 rfl Tryd.underlying51 infoA w.heap.size (.slice a' N c') N _ rfl w5 _ _ rfl HO5.out (⟨p.time, x.time, PK⟩ : Alt) rfl rfl (Alt.one _) h63 hby hsz9 ys HYS ?_)
                intro a9 c9 w9 ho9 hb9 hs9
                have HO9 := Lib.hid ho9
                have HB9 := Lib.hid (HB5.out.trans hb9)
                clear ho9 hb9 h63 hby c0 c1 c2
                go_wp2_with fail
                go_roundw
                case rel =>
                  refine ⟨q + 1, N + 1, a9, c9, by omega, by go_num, rfl, by omega, ?_, Lib.hid fun _ => HS2.out, HB9⟩
                  have hmin : min (q + 1) n = q + 1 := by omega
                  rw [hmin, HEND.out, HYS.out]; exact HO9
                case measure => simp [intOf]; omega
            · obtain rfl : q = n := by omega
              have HEND := Lib.hid (HI.out.fin hlt)
              have h63 : N + 1 ≤ maxLen := by unfold maxLen; omega
              have hby : (N + 1) * 24 ≤ 140737488355328 := by omega
              obtain ⟨ys, hys⟩ : ∃ ys, alN W s ps k ++ [(⟨p.time, -1, PK⟩ : Alt)] = ys := ⟨_, rfl⟩
              have HYS := Lib.hid hys
              have hsz9 : w.heap.size ≤ wr.heap.size := HBq.out.size
              clear hys
              go_wp2_with (at_builtin; refine wpl_app Alt.len (by decide) _ rfl (.tmp 65) (.tmp 67) 51 rfl 60 _ 24 rfl Tryd.underlying51 infoA w.heap.size (.slice a' N c') N _ rfl wr _ _ rfl HOq.out (⟨p.time, -1, PK⟩ : Alt) rfl rfl (Alt.one _) h63 hby hsz9 ys HYS ?_)
              intro a9 c9 w9 ho9 hb9 hs9
              have HO9 := Lib.hid ho9
              have HB9 := Lib.hid (HBq.out.trans hb9)
              clear ho9 hb9 h63 hby c0 c1 c2
              go_wp2_with fail
              go_roundw
              case rel =>
                refine ⟨q + 1, N + 1, a9, c9, by omega, by go_num, rfl, by omega, ?_, Lib.hid fun h => absurd h (by omega), HB9⟩
                have hmin : min (q + 1) q = q := by omega
                rw [hmin, HEND.out, HYS.out]; exact HO9
              case measure => simp [intOf]; omega
    · have hmin : min k n = n := by omega
      rw [hmin] at HO
      go_wp2_with fail
      go_ret
      exact ⟨a', N, c', rfl, HO.out, HB.out⟩
end Go.Proofs.YtjmojfbebcgjeaaDoor
