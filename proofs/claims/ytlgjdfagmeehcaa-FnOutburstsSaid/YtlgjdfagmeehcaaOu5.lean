/-
  The reference's alerts.
-/
import Derived.Test.YtlgjdfagmeehcaaOu4
import Derived.Deep.RegionHeld3
namespace Go.Proofs.Ytlgjdfagmeehcaa
open Go.RowKit
set_option maxRecDepth 100000
theorem alN_pk {W : Int → Int → Int} {s : Nat → Bool} {ps : List Pt} (hc : CuOk ps) (hs0 : s 0 = false) (hW : ∀ a b : Int, W a b = a ∨ W a b = b) : ∀ k, k ≤ ps.length → ∀ x ∈ alN W s ps k, -2000 ≤ x.peak ∧ x.peak ≤ 20000
  | 0, _ => by simp [alN]
  | k + 1, hk => by
    obtain ⟨p, hp⟩ : ∃ z, ps[k]? = some z := ⟨_, List.getElem?_eq_getElem (by omega)⟩
    have ih := alN_pk (W := W) (s := s) hc hs0 hW k (by omega)
    have op := hc.ok k p hp
    cases h0 : s k with
    | false =>
      cases h1 : s (k + 1) with
      | false => rw [alN_off hp h1 h0]; exact ih
      | true =>
        rw [alN_new hp h1 h0]
        intro x hx
        rw [List.mem_append, List.mem_singleton] at hx
        rcases hx with hx | rfl
        · exact ih x hx
        · exact ⟨op.2.2.1, op.2.2.2⟩
    | true =>
      obtain ⟨xs, a, hl, _⟩ := alN_last (W := W) (ps := ps) hs0 k (by omega) h0
      rw [hl] at ih
      have ia := ih a (by simp)
      cases h1 : s (k + 1) with
      | false =>
        rw [alN_end hp h1 h0 hl]
        intro x hx
        rw [List.mem_append, List.mem_singleton] at hx
        rcases hx with hx | rfl
        · exact ih x (by simp [hx])
        · exact ia
      | true =>
        rw [alN_go hp h1 h0 hl]
        intro x hx
        rw [List.mem_append, List.mem_singleton] at hx
        rcases hx with hx | rfl
        · exact ih x (by simp [hx])
        · show -2000 ≤ W a.peak p.mag ∧ W a.peak p.mag ≤ 20000
          rcases hW a.peak p.mag with h | h <;> rw [h]
          · exact ia
          · exact ⟨op.2.2.1, op.2.2.2⟩
def AlP (w : World) (L : List Alt) (e : Ending) (w' : World) : Prop := ∃ (a' : Option Addr) (k c' : Nat), e = .returned (.slice a' k c') ∧ Ow Alt.enc 3 w' w.heap.size 71 (.slice a' k c') k L ∧ Below w.heap.size w w'
set_option maxHeartbeats 8000000 in
theorem l19Alerts_any (s : Nat → Bool) (W : Int → Int → Int) (sg : Int) (hsg : (sg = 1 ∧ W = min) ∨ (sg = -1 ∧ W = max)) (ps : List Pt) (a ab : Option Addr) (n c cb : Nat) (w : World) (hl : ps.length = n) (hcu : CuOk ps) (hs0 : s 0 = false) (hr : Rd Pt.enc 2 w a ps) (hb : Rd eBo 1 w ab (stN s n)) : Calls Try.prog 89 #[.slice a n c, .slice ab n cb, .int .i64 sg] w (AlP w (alN W s ps n)) := by
  have HL := Lib.hid hl
  have HR := Lib.hid hr
  have HRB := Lib.hid hb
  have HCU := Lib.hid hcu
  have HS0 := Lib.hid hs0
  have HSG := Lib.hid hsg
  have hn1 : n ≤ 100 := hl ▸ hcu.len
  have HO0 := Lib.hid (Ow.built Alt.enc 3 w 71)
  have HB0 : Hid (Below w.heap.size w (w.alloc (.cells #[] 71))) := Lib.hid (below_built w 71)
  clear hl hr hb hcu hs0 hsg
  go_enter Try.func89, Try.ntmps89
  go_wp2_with fail
  go_loopw [7, 8] (fun out i wr => ∃ (k N : Nat) (a' : Option Addr) (c' : Nat), k ≤ n ∧ i = .int .i64 k ∧ out = .slice a' N c' ∧ N ≤ k ∧ Hid (Ow Alt.enc 3 wr w.heap.size 71 (.slice a' N c') N (alN W s ps k)) ∧ Hid (Below w.heap.size w wr)) (fun _ i _ => n - (intOf i).toNat)
  case atStart => exact ⟨0, 0, _, _, Nat.zero_le _, rfl, rfl, Nat.zero_le _, HO0, HB0⟩
  case round =>
    obtain ⟨k, N, a', c', hk, rfl, rfl, hN, HO, HB⟩ := hrel
    have hsz : w.heap.size ≤ wr.heap.size := HB.out.size
    by_cases hlt : k < n
    · obtain ⟨p, hp⟩ : ∃ z, ps[k]? = some z := ⟨_, List.getElem?_eq_getElem (by rw [HL.out]; exact hlt)⟩
      obtain ⟨p0, p1, p2, p3⟩ := HCU.out.ok k p hp
      have HP := Lib.hid hp
      obtain ⟨b1, o1, hab1, hbl1, hc1⟩ := HR.out k p hp
      have x0 := hc1 0 _ rfl
      have x1 := hc1 1 _ rfl
      rw [Nat.add_zero] at x0
      subst hab1
      obtain ⟨b2, o2, hab2, hbl2, hc2⟩ := HRB.out k (s (k + 1)) (stN_get s n k hlt)
      have v0 := hc2 0 _ rfl
      rw [Nat.add_zero, Nat.mul_one] at v0
      subst hab2
      have HPC : Hid (∀ wq, Below w.heap.size w wq → wq.cell? ⟨b1, o1 + k * 2, none⟩ = some (.int .i64 p.time) ∧ wq.cell? ⟨b1, o1 + k * 2 + 1, none⟩ = some (.int .i64 p.mag)) := Lib.hid fun wq hq => ⟨(hq.cell (p := ⟨b1, _, none⟩) hbl1).trans x0, (hq.cell (p := ⟨b1, _, none⟩) hbl1).trans x1⟩
      have HBC : Hid (∀ wq, Below w.heap.size w wq → wq.cell? ⟨b2, o2 + k, none⟩ = some (.bool (s (k + 1)))) := Lib.hid fun wq hq => (hq.cell (p := ⟨b2, _, none⟩) hbl2).trans v0
      clear hp hc1 hc2 x0 x1 v0
      have zb := HBC.out wr HB.out
      by_cases hk0 : k = 0
      · subst hk0
        have hs0k := HS0.out
        rw [Nat.add_zero] at zb
        have HPC0 : Hid (∀ wq, Below w.heap.size w wq → wq.cell? ⟨b1, o1, none⟩ = some (.int .i64 p.time) ∧ wq.cell? ⟨b1, o1 + 1, none⟩ = some (.int .i64 p.mag)) := Lib.hid fun wq hq => by simpa using HPC.out wq hq
        cases hs1 : s (0 + 1) with
        | true =>
          rw [hs1] at zb
          have HNEW := Lib.hid (alN_new (W := W) HP.out hs1 hs0k)
          have h63 : N + 1 ≤ maxLen := by unfold maxLen; omega
          have hby : (N + 1) * 24 ≤ 140737488355328 := by omega
          obtain ⟨ys, hys⟩ : ∃ ys, alN W s ps 0 ++ [(⟨p.time, -1, p.mag⟩ : Alt)] = ys := ⟨_, rfl⟩
          have HYS := Lib.hid hys
          have HDA : Hid (Below w.heap.size w wr.drew) := Lib.hid HB.out.drew
          have HOD : Hid (Ow Alt.enc 3 wr.drew w.heap.size 71 (.slice a' N c') N (alN W s ps 0)) := Lib.hid (HO.out.below (Below.refl wr.heap.size wr).drew)
          have hszd : w.heap.size ≤ wr.drew.heap.size := HDA.out.size
          clear hys
          go_wp2_with fail
          go_region_held3 (fun wq : World => wq.cell? ⟨b1, o1, none⟩ = some (.int .i64 p.time) ∧ wq.cell? ⟨b1, o1 + 1, none⟩ = some (.int .i64 p.mag)) (first | (go_keep; done) | exact HPC0.out _ HDA.out | exact HPC0.out _ HB9.out | exact HPC0.out _ (HDA.out.alloc hszd _) | fail)
            (first
              | (refine step_app Alt.len (by decide) _ rfl (.tmp 38) (.tmp 50) 61 rfl 71 _ 24 rfl Try.underlying61 infoA w.heap.size (.slice a' N c') N _ rfl wr.drew _ _ rfl HOD.out (⟨p.time, -1, p.mag⟩ : Alt) rfl rfl (Alt.one _) h63 hby hszd ys HYS ?_; intro a9 c9 w9 ho9 hb9 hs9; have HO9 := Lib.hid ho9; have HB9 := Lib.hid (HDA.out.trans hb9); clear ho9 hb9))
          have HOZ : Hid (Ow Alt.enc 3 w9 w.heap.size 71 (.slice a9 (N + 1) c9) (N + 1) (alN W s ps (0 + 1))) := Lib.hid (by rw [HNEW.out, HYS.out]; exact HO9.out)
          go_wp2_with fail
          go_roundw
          case rel => exact ⟨0 + 1, N + 1, a9, c9, by omega, by go_num, rfl, by omega, HOZ, HB9⟩
          case measure => simp [intOf]; omega
        | false =>
          rw [hs1] at zb
          have HOFF := Lib.hid (alN_off (W := W) HP.out hs1 hs0k)
          have HOZ : Hid (Ow Alt.enc 3 wr w.heap.size 71 (.slice a' N c') N (alN W s ps (0 + 1))) := Lib.hid (by rw [HOFF.out]; exact HO.out)
          go_wp2_with fail
          go_roundw
          case rel => exact ⟨0 + 1, N, a', c', by omega, by go_num, rfl, by omega, HOZ, HB⟩
          case measure => simp [intOf]; omega
      · obtain ⟨j, rfl⟩ : ∃ j, k = j + 1 := ⟨k - 1, by omega⟩
        have hjn : j < n := by omega
        have ji0 : (0 : Int) ≤ (j : Int) + 1 := by omega
        have ji1 : (j : Int) + 1 < (n : Int) := by omega
        have jit : ((j : Int) + 1).toNat = j + 1 := by omega
        obtain ⟨b3, o3, hab3, hbl3, hc3⟩ := (HRB.out.below HB.out) j (s (j + 1)) (stN_get s n j hjn)
        simp only [Option.some.injEq, Addr.mk.injEq, and_true] at hab3
        obtain ⟨rfl, rfl⟩ := hab3
        have zp := hc3 0 _ rfl
        rw [Nat.add_zero, Nat.mul_one] at zp
        have d0 : ((((j + 1 : Nat) : Int)) == 0) = false := by rw [beq_eq_false_iff_ne]; omega
        have dg : decide ((0 : Int) < ((j + 1 : Nat) : Int)) = true := decide_eq_true (by omega)
        clear hc3
        cases hs0k : s (j + 1) with
        | false =>
          rw [hs0k] at zp
          cases hs1 : s (j + 1 + 1) with
          | true =>
            rw [hs1] at zb
            have HNEW := Lib.hid (alN_new (W := W) HP.out hs1 hs0k)
            have h63 : N + 1 ≤ maxLen := by unfold maxLen; omega
            have hby : (N + 1) * 24 ≤ 140737488355328 := by omega
            obtain ⟨ys, hys⟩ : ∃ ys, alN W s ps (j + 1) ++ [(⟨p.time, -1, p.mag⟩ : Alt)] = ys := ⟨_, rfl⟩
            have HYS := Lib.hid hys
            have HDA : Hid (Below w.heap.size w wr.drew) := Lib.hid HB.out.drew
            have HOD : Hid (Ow Alt.enc 3 wr.drew w.heap.size 71 (.slice a' N c') N (alN W s ps (j + 1))) := Lib.hid (HO.out.below (Below.refl wr.heap.size wr).drew)
            have hszd : w.heap.size ≤ wr.drew.heap.size := HDA.out.size
            clear hys
            go_wp2_with fail
            go_region_held3 (fun wq : World => wq.cell? ⟨b1, o1 + (j + 1) * 2, none⟩ = some (.int .i64 p.time) ∧ wq.cell? ⟨b1, o1 + (j + 1) * 2 + 1, none⟩ = some (.int .i64 p.mag)) (first | (go_keep; done) | exact HPC.out _ HDA.out | exact HPC.out _ HB9.out | exact HPC.out _ (HDA.out.alloc hszd _) | fail)
              (first
                | (refine step_app Alt.len (by decide) _ rfl (.tmp 38) (.tmp 50) 61 rfl 71 _ 24 rfl Try.underlying61 infoA w.heap.size (.slice a' N c') N _ rfl wr.drew _ _ rfl HOD.out (⟨p.time, -1, p.mag⟩ : Alt) rfl rfl (Alt.one _) h63 hby hszd ys HYS ?_; intro a9 c9 w9 ho9 hb9 hs9; have HO9 := Lib.hid ho9; have HB9 := Lib.hid (HDA.out.trans hb9); clear ho9 hb9))
            have HOZ : Hid (Ow Alt.enc 3 w9 w.heap.size 71 (.slice a9 (N + 1) c9) (N + 1) (alN W s ps (j + 1 + 1))) := Lib.hid (by rw [HNEW.out, HYS.out]; exact HO9.out)
            go_wp2_with fail
            go_roundw
            case rel => exact ⟨j + 1 + 1, N + 1, a9, c9, by omega, by go_num, rfl, by omega, HOZ, HB9⟩
            case measure => simp [intOf]; omega
          | false =>
            rw [hs1] at zb
            have HOFF := Lib.hid (alN_off (W := W) HP.out hs1 hs0k)
            have HOZ : Hid (Ow Alt.enc 3 wr w.heap.size 71 (.slice a' N c') N (alN W s ps (j + 1 + 1))) := Lib.hid (by rw [HOFF.out]; exact HO.out)
            go_wp2_with fail
            go_roundw
            case rel => exact ⟨j + 1 + 1, N, a', c', by omega, by go_num, rfl, by omega, HOZ, HB⟩
            case measure => simp [intOf]; omega
        | true =>
          rw [hs0k] at zp
          obtain ⟨xs, z, hlz, hfz⟩ := alN_last (W := W) (ps := ps) HS0.out (j + 1) (by rw [HL.out]; omega) hs0k
          have hzp : -2000 ≤ z.peak ∧ z.peak ≤ 20000 := alN_pk (W := W) (s := s) (ps := ps) HCU.out HS0.out (by intro a b; rcases HSG.out with ⟨_, rfl⟩ | ⟨_, rfl⟩ <;> omega) (j + 1) (by rw [HL.out]; omega) z (by rw [hlz]; simp)
          obtain ⟨zp0, zp1⟩ := hzp
          have hlen := HO.out.len Alt.len (by decide)
          rw [hlz] at hlen HO
          obtain ⟨m, rfl⟩ : ∃ m, N = m + 1 := ⟨xs.length, by rw [← hlen]; simp⟩
          have hxm : xs.length = m := by simpa using hlen
          obtain ⟨g, rfl, hg0, hg1⟩ := HO.out.at_ (by omega)
          have HXM := Lib.hid hxm
          have HGB := Lib.hid hg0
          have HZM : Hid ((xs ++ [z])[m]? = some z) := Lib.hid (by rw [← hxm]; simp)
          have HSETL : Hid (∀ y : Alt, (xs ++ [z]).set m y = xs ++ [y]) := Lib.hid fun y => by rw [← hxm]; simp
          have HLZ := Lib.hid hlz
          obtain ⟨b4, o4, hab4, _, hc4⟩ := (HO.out.rd Alt.len (by decide)) m z HZM.out
          simp only [Option.some.injEq, Addr.mk.injEq, and_true] at hab4
          obtain ⟨rfl, rfl⟩ := hab4
          have e0 := hc4 0 _ rfl
          have e1 := hc4 1 _ rfl
          have e2 := hc4 2 _ rfl
          rw [Nat.zero_add] at e0 e1 e2
          rw [Nat.add_zero] at e0
          have hmm : m < m + 1 := Nat.lt_succ_self m
          have HCN := Lib.hid (CAt.new wr #[.int .i64 z.beg, .int .i64 z.fin, .int .i64 z.peak] 71)
          have HBX := Lib.hid ((Below.refl wr.heap.size wr).alloc (Nat.le_refl _) (.cells #[.int .i64 z.beg, .int .i64 z.fin, .int .i64 z.peak] 71))
          have HOA := Lib.hid (HO.out.below HBX.out)
          have HBA := Lib.hid (HB.out.trans (HBX.out.mono hsz))
          have hgx : g < wr.heap.size := hg1
          clear hlz hfz hlen hxm hc4
          cases hs1 : s (j + 1 + 1) with
          | false =>
            have HEND := Lib.hid (alN_end (W := W) HP.out hs1 hs0k HLZ.out)
            rw [hs1] at zb
            go_upto_region 15 with (fail)
            obtain ⟨wA, hwA⟩ : ∃ wA, wr.alloc (.cells #[.int .i64 z.beg, .int .i64 z.fin, .int .i64 z.peak] 71) = wA := ⟨_, rfl⟩
            obtain ⟨gx, hgxe⟩ : ∃ gx, wr.heap.size = gx := ⟨_, rfl⟩
            rw [hwA] at HCN HOA HBA ⊢
            rw [hgxe] at HCN hgx ⊢
            clear hwA hgxe e0 e1 e2 zb zp HBX
            obtain ⟨t0, t1⟩ := HPC.out wA HBA.out
            have k1 : wA.cell? ⟨gx, 1, none⟩ = some (.int .i64 z.fin) := HCN.out.cell 1
            have kf := HCN.out.free 1
            have HCB := Lib.hid (HCN.out.set 1 (.int .i64 p.time))
            have hwgx : w.heap.size ≤ gx := Nat.le_trans HGB.out (Nat.le_of_lt hgx)
            have HBB := Lib.hid (HBA.out.setCell (p := ⟨gx, 1, none⟩) hwgx (.int .i64 p.time))
            have HOB : Hid (Ow Alt.enc 3 (wA.setCell ⟨gx, 1, none⟩ (.int .i64 p.time)) w.heap.size 71 (.slice (some ⟨g, 0, none⟩) (m + 1) c') (m + 1) (xs ++ [z])) := Lib.hid (HOA.out.same fun q hq => Below.heap_setCell _ _ _ _ (by simp only [Value.ownBlock, Option.some.injEq] at hq; show q ≠ gx; omega))
            go_upto_region 16 with (fail)
            obtain ⟨wB, hwB⟩ : ∃ wB, wA.setCell ⟨gx, 1, none⟩ (.int .i64 p.time) = wB := ⟨_, rfl⟩
            rw [hwB] at HCB HBB HOB ⊢
            clear hwB t0 t1 k1 kf
            have e0 : wB.cell? ⟨gx, 0, none⟩ = some (.int .i64 z.beg) := HCB.out.cell 0
            have e1 : wB.cell? ⟨gx, 1, none⟩ = some (.int .i64 p.time) := HCB.out.cell 1
            have e2 : wB.cell? ⟨gx, 2, none⟩ = some (.int .i64 z.peak) := HCB.out.cell 2
            have hs9 : w.heap.size ≤ wB.heap.size := HBB.out.size
            have HY := Lib.hid (HSETL.out ⟨z.beg, p.time, z.peak⟩)
            go_wp2_with (with_reducible refine wpl_set Alt.len (by decide) _ rfl 71 (.tmp 110) (.tmp 109) rfl g (m * 3) rfl _ rfl ⟨z.beg, p.time, z.peak⟩ rfl ?s1 (Alt.one _) w.heap.size 71 (m + 1) c' m _ HOB.out hmm rfl w.heap.size HGB.out hs9 _ HY ?_)
            case s1 => kernel_rfl
            intro w9 ho9 hb9 _
            have HOZ : Hid (Ow Alt.enc 3 w9 w.heap.size 71 (.slice (some ⟨g, 0, none⟩) (m + 1) c') (m + 1) (alN W s ps (j + 1 + 1))) := Lib.hid (by rw [HEND.out]; exact ho9)
            have HB9 := Lib.hid (HBB.out.trans hb9)
            clear ho9 hb9 e0 e1 e2
            go_wp2_with fail
            go_roundw
            case rel => exact ⟨j + 1 + 1, m + 1, some ⟨g, 0, none⟩, c', by omega, by go_num, rfl, by omega, HOZ, HB9⟩
            case measure => simp [intOf]; omega
          | true =>
            have HGO := Lib.hid (alN_go (W := W) HP.out hs1 hs0k HLZ.out)
            rw [hs1] at zb
            have i1 : IntKind.i64.wrap (sg * p.mag) = sg * p.mag := by rcases HSG.out with ⟨rfl, _⟩ | ⟨rfl, _⟩ <;> exact IntWalk.i64_in _ (by omega)
            have i2 : IntKind.i64.wrap (sg * z.peak) = sg * z.peak := by rcases HSG.out with ⟨rfl, _⟩ | ⟨rfl, _⟩ <;> exact IntWalk.i64_in _ (by omega)
            go_upto_region 10 with (fail)
            obtain ⟨wA, hwA⟩ : ∃ wA, wr.alloc (.cells #[.int .i64 z.beg, .int .i64 z.fin, .int .i64 z.peak] 71) = wA := ⟨_, rfl⟩
            obtain ⟨gx, hgxe⟩ : ∃ gx, wr.heap.size = gx := ⟨_, rfl⟩
            rw [hwA] at HCN HOA HBA ⊢
            rw [hgxe] at HCN hgx ⊢
            clear hwA hgxe e0 e1 e2 zb zp HBX
            obtain ⟨t0, t1⟩ := HPC.out wA HBA.out
            have k2 : wA.cell? ⟨gx, 2, none⟩ = some (.int .i64 z.peak) := HCN.out.cell 2
            have hwgx : w.heap.size ≤ gx := Nat.le_trans HGB.out (Nat.le_of_lt hgx)
            by_cases hlt2 : sg * p.mag < sg * z.peak
            · have HWV : Hid (W z.peak p.mag = p.mag) := Lib.hid (by rcases HSG.out with ⟨rfl, rfl⟩ | ⟨rfl, rfl⟩ <;> omega)
              have d2 : decide (sg * p.mag < sg * z.peak) = true := by simpa using hlt2
              clear hlt2
              go_wp2_with fail
              go_quiet (fail)
              have HB4 : Hid (Below w.heap.size w (wA.drewN nq)) := Lib.hid (below_drewN HBA.out nq)
              have hbq : Below wA.heap.size wA (wA.drewN nq) := below_drewN (Below.refl _ _) nq
              have HO4 := Lib.hid (HOA.out.below hbq)
              have HC4 := Lib.hid (HCN.out.below hbq)
              obtain ⟨w4, hw4⟩ : ∃ wq, wA.drewN nq = wq := ⟨_, rfl⟩
              rw [hw4] at HB4 HO4 HC4 ⊢
              clear hw4 hbq t0 t1 k2 i1 i2 d2
              obtain ⟨t0, t1⟩ := HPC.out w4 HB4.out
              have k2 : w4.cell? ⟨gx, 2, none⟩ = some (.int .i64 z.peak) := HC4.out.cell 2
              have kf := HC4.out.free 2
              have HCB := Lib.hid (HC4.out.set 2 (.int .i64 p.mag))
              have HBB := Lib.hid (HB4.out.setCell (p := ⟨gx, 2, none⟩) hwgx (.int .i64 p.mag))
              have HOB : Hid (Ow Alt.enc 3 (w4.setCell ⟨gx, 2, none⟩ (.int .i64 p.mag)) w.heap.size 71 (.slice (some ⟨g, 0, none⟩) (m + 1) c') (m + 1) (xs ++ [z])) := Lib.hid (HO4.out.same fun q hq => Below.heap_setCell _ _ _ _ (by simp only [Value.ownBlock, Option.some.injEq] at hq; show q ≠ gx; omega))
              go_upto_region 12 with (fail)
              obtain ⟨wB, hwB⟩ : ∃ wB, w4.setCell ⟨gx, 2, none⟩ (.int .i64 p.mag) = wB := ⟨_, rfl⟩
              rw [hwB] at HCB HBB HOB ⊢
              clear hwB t0 t1 k2 kf
              have e0 : wB.cell? ⟨gx, 0, none⟩ = some (.int .i64 z.beg) := HCB.out.cell 0
              have e1 : wB.cell? ⟨gx, 1, none⟩ = some (.int .i64 z.fin) := HCB.out.cell 1
              have e2 : wB.cell? ⟨gx, 2, none⟩ = some (.int .i64 p.mag) := HCB.out.cell 2
              have hs9 : w.heap.size ≤ wB.heap.size := HBB.out.size
              have HY := Lib.hid (HSETL.out ⟨z.beg, z.fin, p.mag⟩)
              go_wp2_with (with_reducible refine wpl_set Alt.len (by decide) _ rfl 71 (.tmp 84) (.tmp 83) rfl g (m * 3) rfl _ rfl ⟨z.beg, z.fin, p.mag⟩ rfl ?s1 (Alt.one _) w.heap.size 71 (m + 1) c' m _ HOB.out hmm rfl w.heap.size HGB.out hs9 _ HY ?_)
              case s1 => kernel_rfl
              intro w9 ho9 hb9 _
              have HOZ : Hid (Ow Alt.enc 3 w9 w.heap.size 71 (.slice (some ⟨g, 0, none⟩) (m + 1) c') (m + 1) (alN W s ps (j + 1 + 1))) := Lib.hid (by rw [HGO.out, HWV.out]; exact ho9)
              have HB9 := Lib.hid (HBB.out.trans hb9)
              clear ho9 hb9 e0 e1 e2
              go_wp2_with fail
              go_roundw
              case rel => exact ⟨j + 1 + 1, m + 1, some ⟨g, 0, none⟩, c', by omega, by go_num, rfl, by omega, HOZ, HB9⟩
              case measure => simp [intOf]; omega
            · have HWV : Hid (W z.peak p.mag = z.peak) := Lib.hid (by rcases HSG.out with ⟨rfl, rfl⟩ | ⟨rfl, rfl⟩ <;> omega)
              have d2 : decide (sg * p.mag < sg * z.peak) = false := by simpa using hlt2
              clear hlt2
              go_wp2_with fail
              go_quiet (fail)
              have HBB : Hid (Below w.heap.size w (wA.drewN nq)) := Lib.hid (below_drewN HBA.out nq)
              have hbq : Below wA.heap.size wA (wA.drewN nq) := below_drewN (Below.refl _ _) nq
              have HOB := Lib.hid (HOA.out.below hbq)
              have HCB := Lib.hid (HCN.out.below hbq)
              obtain ⟨w4, hw4⟩ : ∃ wq, wA.drewN nq = wq := ⟨_, rfl⟩
              rw [hw4] at HBB HOB HCB ⊢
              clear hw4 hbq t0 t1 k2 i1 i2 d2
              have e0 : w4.cell? ⟨gx, 0, none⟩ = some (.int .i64 z.beg) := HCB.out.cell 0
              have e1 : w4.cell? ⟨gx, 1, none⟩ = some (.int .i64 z.fin) := HCB.out.cell 1
              have e2 : w4.cell? ⟨gx, 2, none⟩ = some (.int .i64 z.peak) := HCB.out.cell 2
              have hs9 : w.heap.size ≤ w4.heap.size := HBB.out.size
              have HY := Lib.hid (HSETL.out ⟨z.beg, z.fin, z.peak⟩)
              go_wp2_with (with_reducible refine wpl_set Alt.len (by decide) _ rfl 71 (.tmp 84) (.tmp 83) rfl g (m * 3) rfl _ rfl ⟨z.beg, z.fin, z.peak⟩ rfl ?s1 (Alt.one _) w.heap.size 71 (m + 1) c' m _ HOB.out hmm rfl w.heap.size HGB.out hs9 _ HY ?_)
              case s1 => kernel_rfl
              intro w9 ho9 hb9 _
              have HOZ : Hid (Ow Alt.enc 3 w9 w.heap.size 71 (.slice (some ⟨g, 0, none⟩) (m + 1) c') (m + 1) (alN W s ps (j + 1 + 1))) := Lib.hid (by rw [HGO.out, HWV.out]; exact ho9)
              have HB9 := Lib.hid (HBB.out.trans hb9)
              clear ho9 hb9 e0 e1 e2
              go_wp2_with fail
              go_roundw
              case rel => exact ⟨j + 1 + 1, m + 1, some ⟨g, 0, none⟩, c', by omega, by go_num, rfl, by omega, HOZ, HB9⟩
              case measure => simp [intOf]; omega
    · obtain rfl : k = n := by omega
      go_wp2_with fail
      go_ret
      exact ⟨a', N, c', rfl, HO.out, HB.out⟩
end Go.Proofs.Ytlgjdfagmeehcaa
