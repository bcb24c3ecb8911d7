/-
  The middles of crossings; equal lists of fractions.
-/
import Derived.Test.YtlgjdfagmeehcaaCh2
import Derived.Laws.StructEq
namespace Go.Proofs.Ytlgjdfagmeehcaa
open Go.RowKit
set_option maxRecDepth 100000
def mdF (L : List Frac) : List Frac := mdN L (L.length - 1)
theorem crF_ok {ps : List Pt} {l : Int} (hc : CuOk ps) {i : Nat} {r : Frac} (h : (crF ps l)[i]? = some r) : FOk r := by
  obtain ⟨j, hj⟩ := crF_is h
  exact hj.big hc
theorem guardF (op : BinOp) (o o' : Operand) (xs ys : Array Value) (wx : World) : (eqGuard op 79 o o' (.agg xs) (.agg ys)).run Try.prog wx = .ok () wx := run_eqGuard_agg wx op _ o o' xs ys (by kernel_rfl)
theorem neqF (x : Frac) (wx : World) : (binOp .neq 79 (.agg #[.int .i64 x.num, .int .i64 x.den]) (.agg #[.int .i64 x.num, .int .i64 x.den])).run Try.prog wx = .ok (.bool false) wx := by
  rw [run_neq_struct, run_equalIn_agg _ _ _ _ _ (by kernel_rfl) (by kernel_rfl)]
  rw [Program.fieldsOf, Try.underlying79]
  have e1 := fun w a b => run_equalIn_int (P := Try.prog) w 9998 2 .i64 .i64 a b Try.underlying2
  have p0 : ∀ (b c : Int) (w : World), (part 2 #[.int .i64 b, .int .i64 c] 0).run Try.prog w = .ok (.int .i64 b) w := by intros; kernel_rfl
  have p1 : ∀ (b c : Int) (w : World), (part 2 #[.int .i64 b, .int .i64 c] 1).run Try.prog w = .ok (.int .i64 c) w := by intros; kernel_rfl
  simp only [Op.eqFields, p0, p1, e1, Sem.run_bind, Sem.run_ite, Sem.run_pure, Result.andThen_ok, ne_eq, String.reduceEq, not_false_eq_true, if_true, beq_self_eq_true]
  rfl
set_option maxHeartbeats 2000000 in
theorem f6fr_any (L : List Frac) (a a' : Option Addr) (n c c' : Nat) (w : World) (hn : n ≤ 200) (hl : L.length = n) (hr : Rd Frac.enc 2 w a L) (hr' : Rd Frac.enc 2 w a' L) : Calls Try.prog 41 #[.slice a n c, .slice a' n c'] w fun e w' => e = .returned (.bool true) ∧ Below w.heap.size w w' := by
  have HL := Lib.hid hl
  have HR := Lib.hid hr
  have HR' := Lib.hid hr'
  have dn : ((n : Int) != (n : Int)) = false := by simp
  clear hl hr hr'
  go_enter Try.func41, Try.ntmps41
  go_wp2_with fail
  go_loopw [5] (fun i wr => ∃ k : Nat, k ≤ n ∧ i = .int .i64 k ∧ Below w.heap.size w wr) (fun i _ => n - (intOf i).toNat)
  case atStart => exact ⟨0, Nat.zero_le _, rfl, Below.refl _ _⟩
  case round =>
    obtain ⟨k, hk, rfl, hb⟩ := hrel
    have HB := Lib.hid hb
    by_cases hlt : k < n
    · obtain ⟨x, hx, _⟩ := take_snoc' L k (by rw [HL.out]; omega)
      obtain ⟨b, o, hab, hbl, hc⟩ := (HR.out.below hb) k x hx
      obtain ⟨b', o', hab', hbl', hc'⟩ := (HR'.out.below hb) k x hx
      subst hab hab'
      have c0 := hc 0 _ rfl
      have c1 := hc 1 _ rfl
      have e0 := hc' 0 _ rfl
      have e1 := hc' 1 _ rfl
      rw [Nat.add_zero] at c0 e0
      have hg := guardF
      have hn := fun wx => neqF x wx
      clear hc hc' hx hb
      go_wp2_with fail
      go_quiet (fail)
      have HB2 : Hid (Below w.heap.size w (wr.drewN nq)) := Lib.hid (below_drewN HB.out nq)
      clear hn hg c0 c1 e0 e1
      go_wp2_with fail
      go_roundw
      case rel => exact ⟨k + 1, by omega, by go_num, HB2.out⟩
      case measure => simp [intOf]; omega
    · obtain rfl : k = n := by omega
      go_wp2_with fail
      go_ret
      exact ⟨rfl, HB.out⟩
set_option maxHeartbeats 4000000 in
theorem implMd_ok (ps : List Pt) (a : Option Addr) (n c : Nat) (l : Int) (w : World) (hn : n ≤ 200) (hl : ps.length = n) (hr : Rd Pt.enc 2 w a ps) (hv : Pt.allOk ps = true) (hlv : inB l (-2000) 20000 = true) : Calls Try.prog 39 #[.slice a n c, .int .i64 l] w (CrT w (mdF (crF ps l))) := by
  have C1 := Lib.hid (crossings_ok ps a n c l w hn hl hr hv hlv)
  have HCU := Lib.hid (CuOk.of hv)
  have HR := Lib.hid hr
  clear hl hr hv hlv
  go_enter Try.func39, Try.ntmps39
  go_wp2_with fail
  refine C1.out.mono ?_
  rintro e w2 ⟨aL, kL, cL, rfl, ho2, hb2⟩
  have HB2 := Lib.hid hb2
  have HRL := Lib.hid (ho2.rd Frac.len (by decide))
  have hkl := ho2.len Frac.len (by decide)
  have HKL := Lib.hid hkl
  have hk100 : kL ≤ 100 := by rw [← hkl]; exact crF_len HCU.out
  have hbs2 : w.heap.size ≤ w2.heap.size := HB2.out.size
  have HON := Lib.hid (Ow.built Frac.enc 2 w2 79)
  have HBN : Hid (Below w2.heap.size w2 (w2.alloc (.cells #[] 79))) := Lib.hid (below_built w2 79)
  have HEND : Hid (∀ (a' : Option Addr) (N c' : Nat) (w' : World) (k : Nat), k = kL - 1 → Ow Frac.enc 2 w' w2.heap.size 79 (.slice a' N c') N (mdN (crF ps l) k) → Below w2.heap.size w2 w' → CrT w (mdF (crF ps l)) (.returned (.tuple #[.slice a' N c', .int .i64 0])) w') := Lib.hid fun a' N c' w' k hk h1 h2 => ⟨a', N, c', rfl, by unfold mdF; rw [hkl, ← hk]; exact h1.mono hbs2, HB2.out.trans (h2.mono hbs2)⟩
  clear ho2 hb2 hkl
  go_wp2_with fail
  go_loopw [8, 9] (fun out i wr => ∃ (k N : Nat) (a' : Option Addr) (c' : Nat), 1 ≤ k ∧ (k ≤ kL ∨ k = 1) ∧ i = .int .i64 k ∧ out = .slice a' N c' ∧ N ≤ k ∧ Hid (Ow Frac.enc 2 wr w2.heap.size 79 (.slice a' N c') N (mdN (crF ps l) (k - 1))) ∧ Hid (Below w2.heap.size w2 wr)) (fun _ i _ => kL - (intOf i).toNat)
  case atStart => exact ⟨1, 0, _, _, by omega, by omega, rfl, rfl, by omega, HON, HBN⟩
  case round =>
    obtain ⟨k, N, a', c', hk1, hk2, rfl, rfl, hN, HO, HB⟩ := hrel
    have hsz : w2.heap.size ≤ wr.heap.size := HB.out.size
    by_cases hlt : k < kL
    · obtain ⟨j, rfl⟩ : ∃ j, k = j + 1 := ⟨k - 1, by omega⟩
      obtain ⟨p, hp⟩ : ∃ z, (crF ps l)[j]? = some z := ⟨_, List.getElem?_eq_getElem (by rw [HKL.out]; omega)⟩
      obtain ⟨q, hq⟩ : ∃ z, (crF ps l)[j + 1]? = some z := ⟨_, List.getElem?_eq_getElem (by rw [HKL.out]; omega)⟩
      have hpo := crF_ok HCU.out hp
      have hqo := crF_ok HCU.out hq
      have hmp := md_parts hpo hqo
      have hpd0 := hpo.1
      have hpd1 := hpo.2.1
      obtain ⟨z0, z1, z2, z3, z4, z5⟩ := hmp
      obtain ⟨b1, o1, hab1, hbl1, hc1⟩ := (HRL.out.below HB.out) j p hp
      obtain ⟨b2, o2, hab2, hbl2, hc2⟩ := (HRL.out.below HB.out) (j + 1) q hq
      rw [hab1] at hab2
      simp only [Option.some.injEq, Addr.mk.injEq, and_true] at hab2
      obtain ⟨rfl, rfl⟩ := hab2
      subst hab1
      have x0 := hc1 0 _ rfl
      have x1 := hc1 1 _ rfl
      have y0 := hc2 0 _ rfl
      have y1 := hc2 1 _ rfl
      rw [Nat.add_zero] at x0 y0
      have HMD := Lib.hid (mdN_succ hp hq)
      obtain ⟨F, hF⟩ : ∃ F, mdAt p q = F := ⟨_, rfl⟩
      have CF : Hid (∀ wq, Calls Try.prog 110 #[.int .i64 (p.num * q.den + q.num * p.den), .int .i64 (2 * p.den * q.den)] wq fun e w' => e = .returned (.agg #[.int .i64 F.num, .int .i64 F.den]) ∧ Below wq.heap.size wq w') := Lib.hid fun wq => by
        rw [← hF]
        exact lowPos (p.num * q.den + q.num * p.den) (2 * p.den * q.den) wq (by rw [Int.mul_assoc]; omega) (by omega) (by rw [Int.mul_assoc]; omega)
      rw [hF] at HMD
      have i1 : IntKind.i64.wrap (p.num * q.den) = p.num * q.den := IntWalk.i64_in _ (by omega)
      have i2 : IntKind.i64.wrap (q.num * p.den) = q.num * p.den := IntWalk.i64_in _ (by omega)
      have i3 : IntKind.i64.wrap (p.num * q.den + q.num * p.den) = p.num * q.den + q.num * p.den := IntWalk.i64_in _ (by omega)
      have i4 : IntKind.i64.wrap (2 * p.den) = 2 * p.den := IntWalk.i64_in _ (by omega)
      have i5 : IntKind.i64.wrap (2 * p.den * q.den) = 2 * p.den * q.den := IntWalk.i64_in _ (by rw [Int.mul_assoc]; omega)
      clear hp hq hc1 hc2 hF hpo hqo hpd0 hpd1
      clear z0 z1 z2 z3 z4 z5
      go_upto_region 8 with (fail)
      go_cut [10, 11] (fun s8 s9 wx => ∃ g1 g2 : Nat, s8 = .pointer (some ⟨g1, 0, none⟩) ∧ s9 = .pointer (some ⟨g2, 0, none⟩) ∧ Hid (CAt wx g1 #[.int .i64 p.num, .int .i64 p.den] 79) ∧ Hid (CAt wx g2 #[.int .i64 q.num, .int .i64 q.den] 79) ∧ Hid (Below wr.heap.size wr wx))
      case first =>
        have HX := Lib.hid (bx2 wr #[.int .i64 p.num, .int .i64 p.den] #[.int .i64 q.num, .int .i64 q.den] 79 79)
        have HY := Lib.hid (bx2 wr #[.int .i64 q.num, .int .i64 q.den] #[.int .i64 p.num, .int .i64 p.den] 79 79)
        clear i1 i2 i3 i4 i5
        go_region
        all_goals
          go_wp2_with fail
          go_meet
          first
            | exact ⟨_, _, rfl, rfl, Lib.hid HX.out.1.drew, Lib.hid HX.out.2.1.drew, Lib.hid HX.out.2.2.1.drew⟩
            | exact ⟨_, _, rfl, rfl, Lib.hid HY.out.2.1.drew, Lib.hid HY.out.1.drew, Lib.hid HY.out.2.2.1.drew⟩
            | fail
      case rest =>
        obtain ⟨g1, g2, rfl, rfl, HC1, HC2, HBX⟩ := hcut
        clear x0 x1 y0 y1
        have z0 : wc.cell? ⟨g1, 0, none⟩ = some (.int .i64 p.num) := HC1.out.cell 0
        have z1 : wc.cell? ⟨g1, 1, none⟩ = some (.int .i64 p.den) := HC1.out.cell 1
        have z2 : wc.cell? ⟨g2, 0, none⟩ = some (.int .i64 q.num) := HC2.out.cell 0
        have z3 : wc.cell? ⟨g2, 1, none⟩ = some (.int .i64 q.den) := HC2.out.cell 1
        have HOX := Lib.hid (HO.out.below HBX.out)
        have HBC := Lib.hid (HB.out.trans (HBX.out.mono hsz))
        have hszc : w2.heap.size ≤ wc.heap.size := HBC.out.size
        have hbr : wr.heap.size ≤ wc.heap.size := HBX.out.size
        go_wp2_with fail
        refine (CF.out _).mono ?_
        rintro e w4 ⟨rfl, hb4⟩
        have HO4 := Lib.hid (HOX.out.below hb4)
        have HB4 := Lib.hid (HBC.out.trans (hb4.mono hszc))
        have hsz4 : w2.heap.size ≤ w4.heap.size := HB4.out.size
        clear hb4 z0 z1 z2 z3 i1 i2 i3 i4 i5
        have h63 : N + 1 ≤ maxLen := by unfold maxLen; omega
        have hby : (N + 1) * 16 ≤ 140737488355328 := by omega
        obtain ⟨ys, hys⟩ : ∃ ys, mdN (crF ps l) (j + 1 - 1) ++ [F] = ys := ⟨_, rfl⟩
        have HYS := Lib.hid hys
        clear hys
        go_wp2_with (at_builtin; refine wpl_app Frac.len (by decide) _ rfl (.tmp 37) (.tmp 56) 74 rfl 79 _ 16 rfl Try.underlying74 Try.info79 w2.heap.size _ N _ rfl w4 _ _ rfl HO4.out (F) rfl rfl (Frac.one _) h63 hby hsz4 ys HYS ?_)
        intro a5 c5 w5 ho5 hb5 hs5
        have HO5 := Lib.hid ho5
        have HB5 := Lib.hid (HB4.out.trans hb5)
        clear ho5 hb5 h63 hby
        have HOZ : Hid (Ow Frac.enc 2 w5 w2.heap.size 79 (.slice a5 (N + 1) c5) (N + 1) (mdN (crF ps l) (j + 1))) := Lib.hid (by rw [HMD.out]; rw [Nat.add_sub_cancel] at HYS; rw [HYS.out]; exact HO5.out)
        go_wp2_with fail
        go_roundw
        case rel => exact ⟨j + 1 + 1, N + 1, a5, c5, by omega, by omega, by go_num, rfl, by omega, HOZ, HB5⟩
        case measure => simp [intOf]; omega
    · have HKE : Hid (k - 1 = kL - 1) := Lib.hid (by omega)
      go_wp2_with fail
      go_ret2
      exact HEND.out _ _ _ _ _ HKE.out HO.out HB.out
set_option maxHeartbeats 4000000 in
theorem specMd_ok (ps : List Pt) (a : Option Addr) (n c : Nat) (l : Int) (w : World) (hn : n ≤ 200) (hl : ps.length = n) (hr : Rd Pt.enc 2 w a ps) (hv : Pt.allOk ps = true) (hlv : inB l (-2000) 20000 = true) : Calls Try.prog 40 #[.slice a n c, .int .i64 l] w (CrT w (mdF (crF ps l))) := by
  have C0 := l12Level_any ps a n c l w hn hl hr
  rw [cuCode_ok hv hlv] at C0
  have C0 := Lib.hid C0
  have C1 : Hid (∀ wq, Rd Pt.enc 2 wq a ps → Calls Try.prog 109 #[.slice a n c, .int .i64 l] wq (CrP wq (crF ps l))) := Lib.hid fun wq hq => l12Cross_ok ps a n c l wq hn hl hq hv hlv
  have HCU := Lib.hid (CuOk.of hv)
  have HR := Lib.hid hr
  clear hl hr hv hlv
  go_enter Try.func40, Try.ntmps40
  go_wp2_with fail
  refine C0.out.mono ?_
  rintro e w1 ⟨rfl, hb1⟩
  have HB1 := Lib.hid hb1
  clear hb1
  go_wp2_with fail
  refine (C1.out _ (HR.out.below HB1.out)).mono ?_
  rintro e w2 ⟨aL, kL, cL, rfl, ho2, hb2⟩
  have HB2 := Lib.hid (HB1.out.trans (hb2.mono HB1.out.size))
  have HRL := Lib.hid (ho2.rd Frac.len (by decide))
  have hkl := ho2.len Frac.len (by decide)
  have HKL := Lib.hid hkl
  have hk100 : kL ≤ 100 := by rw [← hkl]; exact crF_len HCU.out
  have hbs2 : w.heap.size ≤ w2.heap.size := HB2.out.size
  have HON := Lib.hid (Ow.built Frac.enc 2 w2 79)
  have HBN : Hid (Below w2.heap.size w2 (w2.alloc (.cells #[] 79))) := Lib.hid (below_built w2 79)
  have HEND : Hid (∀ (a' : Option Addr) (N c' : Nat) (w' : World) (k : Nat), k = kL - 1 → Ow Frac.enc 2 w' w2.heap.size 79 (.slice a' N c') N (mdN (crF ps l) k) → Below w2.heap.size w2 w' → CrT w (mdF (crF ps l)) (.returned (.tuple #[.slice a' N c', .int .i64 0])) w') := Lib.hid fun a' N c' w' k hk h1 h2 => ⟨a', N, c', rfl, by unfold mdF; rw [hkl, ← hk]; exact h1.mono hbs2, HB2.out.trans (h2.mono hbs2)⟩
  clear ho2 hb2 hkl
  go_wp2_with fail
  go_loopw [8, 9] (fun out i wr => ∃ (j N : Nat) (a' : Option Addr) (c' : Nat), (j + 1 ≤ kL ∨ j = 0) ∧ i = .int .i64 j ∧ out = .slice a' N c' ∧ N ≤ j ∧ Hid (Ow Frac.enc 2 wr w2.heap.size 79 (.slice a' N c') N (mdN (crF ps l) j)) ∧ Hid (Below w2.heap.size w2 wr)) (fun _ i _ => kL - (intOf i).toNat)
  case atStart => exact ⟨0, 0, _, _, by omega, rfl, rfl, by omega, HON, HBN⟩
  case round =>
    obtain ⟨j, N, a', c', hk2, rfl, rfl, hN, HO, HB⟩ := hrel
    have hsz : w2.heap.size ≤ wr.heap.size := HB.out.size
    by_cases hlt : j + 1 < kL
    · have hltI : (j : Int) + 1 < (kL : Int) := by omega
      have hjn : j < kL := by omega
      obtain ⟨p, hp⟩ : ∃ z, (crF ps l)[j]? = some z := ⟨_, List.getElem?_eq_getElem (by rw [HKL.out]; omega)⟩
      obtain ⟨q, hq⟩ : ∃ z, (crF ps l)[j + 1]? = some z := ⟨_, List.getElem?_eq_getElem (by rw [HKL.out]; omega)⟩
      have hpo := crF_ok HCU.out hp
      have hqo := crF_ok HCU.out hq
      have hmp := md_parts hpo hqo
      have hpd0 := hpo.1
      have hpd1 := hpo.2.1
      obtain ⟨z0, z1, z2, z3, z4, z5⟩ := hmp
      obtain ⟨b1, o1, hab1, hbl1, hc1⟩ := (HRL.out.below HB.out) j p hp
      obtain ⟨b2, o2, hab2, hbl2, hc2⟩ := (HRL.out.below HB.out) (j + 1) q hq
      rw [hab1] at hab2
      simp only [Option.some.injEq, Addr.mk.injEq, and_true] at hab2
      obtain ⟨rfl, rfl⟩ := hab2
      subst hab1
      have x0 := hc1 0 _ rfl
      have x1 := hc1 1 _ rfl
      have y0 := hc2 0 _ rfl
      have y1 := hc2 1 _ rfl
      rw [Nat.add_zero] at x0 y0
      have HMD := Lib.hid (mdN_succ hp hq)
      obtain ⟨F, hF⟩ : ∃ F, mdAt p q = F := ⟨_, rfl⟩
      have CF : Hid (∀ wq, Calls Try.prog 111 #[.int .i64 (p.num * q.den + q.num * p.den), .int .i64 (2 * p.den * q.den)] wq fun e w' => e = .returned (.agg #[.int .i64 F.num, .int .i64 F.den]) ∧ Below wq.heap.size wq w') := Lib.hid fun wq => by
        rw [← hF]
        exact makeI (p.num * q.den + q.num * p.den) (2 * p.den * q.den) wq (by rw [Int.mul_assoc]; omega) (by omega) (by rw [Int.mul_assoc]; omega)
      rw [hF] at HMD
      have i1 : IntKind.i64.wrap (p.num * q.den) = p.num * q.den := IntWalk.i64_in _ (by omega)
      have i2 : IntKind.i64.wrap (q.num * p.den) = q.num * p.den := IntWalk.i64_in _ (by omega)
      have i3 : IntKind.i64.wrap (p.num * q.den + q.num * p.den) = p.num * q.den + q.num * p.den := IntWalk.i64_in _ (by omega)
      have i4 : IntKind.i64.wrap (2 * p.den) = 2 * p.den := IntWalk.i64_in _ (by omega)
      have i5 : IntKind.i64.wrap (2 * p.den * q.den) = 2 * p.den * q.den := IntWalk.i64_in _ (by rw [Int.mul_assoc]; omega)
      clear hp hq hc1 hc2 hF hpo hqo hpd0 hpd1
      clear z0 z1 z2 z3 z4 z5
      have HX := Lib.hid (bx2 wr #[.int .i64 p.num, .int .i64 p.den] #[.int .i64 q.num, .int .i64 q.den] 79 79)
      go_upto_region 10 with (fail)
      have yy0 : (wr.alloc (.cells #[.int .i64 p.num, .int .i64 p.den] 79)).cell? ⟨b1, o1 + (j + 1) * 2, none⟩ = some (.int .i64 q.num) := (((Below.refl wr.heap.size wr).alloc (Nat.le_refl _) (.cells #[.int .i64 p.num, .int .i64 p.den] 79)).cell (p := ⟨b1, _, none⟩) hbl1).trans y0
      have yy1 : (wr.alloc (.cells #[.int .i64 p.num, .int .i64 p.den] 79)).cell? ⟨b1, o1 + (j + 1) * 2 + 1, none⟩ = some (.int .i64 q.den) := (((Below.refl wr.heap.size wr).alloc (Nat.le_refl _) (.cells #[.int .i64 p.num, .int .i64 p.den] 79)).cell (p := ⟨b1, _, none⟩) hbl1).trans y1
      go_upto_region 11 with (fail)
      obtain ⟨wc, hwc⟩ : ∃ wc, (wr.alloc (.cells #[.int .i64 p.num, .int .i64 p.den] 79)).alloc (.cells #[.int .i64 q.num, .int .i64 q.den] 79) = wc := ⟨_, rfl⟩
      rw [hwc] at HX ⊢
      clear x0 x1 y0 y1 yy0 yy1 hwc
      have z0 : wc.cell? ⟨wr.heap.size, 0, none⟩ = some (.int .i64 p.num) := HX.out.1.cell 0
      have z1 : wc.cell? ⟨wr.heap.size, 1, none⟩ = some (.int .i64 p.den) := HX.out.1.cell 1
      have z2 : wc.cell? ⟨wr.heap.size + 1, 0, none⟩ = some (.int .i64 q.num) := HX.out.2.1.cell 0
      have z3 : wc.cell? ⟨wr.heap.size + 1, 1, none⟩ = some (.int .i64 q.den) := HX.out.2.1.cell 1
      have HOX := Lib.hid (HO.out.below HX.out.2.2.1)
      have HBC := Lib.hid (HB.out.trans (HX.out.2.2.1.mono hsz))
      have hszc : w2.heap.size ≤ wc.heap.size := HBC.out.size
      go_wp2_with fail
      refine (CF.out _).mono ?_
      rintro e w4 ⟨rfl, hb4⟩
      have HO4 := Lib.hid (HOX.out.below hb4)
      have HB4 := Lib.hid (HBC.out.trans (hb4.mono hszc))
      have hsz4 : w2.heap.size ≤ w4.heap.size := HB4.out.size
      clear hb4 z0 z1 z2 z3 i1 i2 i3 i4 i5
      have h63 : N + 1 ≤ maxLen := by unfold maxLen; omega
      have hby : (N + 1) * 16 ≤ 140737488355328 := by omega
      obtain ⟨ys, hys⟩ : ∃ ys, mdN (crF ps l) j ++ [F] = ys := ⟨_, rfl⟩
      have HYS := Lib.hid hys
      clear hys
      go_wp2_with (at_builtin; refine wpl_app Frac.len (by decide) _ rfl (.tmp 38) (.tmp 57) 74 rfl 79 _ 16 rfl Try.underlying74 Try.info79 w2.heap.size _ N _ rfl w4 _ _ rfl HO4.out (F) rfl rfl (Frac.one _) h63 hby hsz4 ys HYS ?_)
      intro a5 c5 w5 ho5 hb5 hs5
      have HO5 := Lib.hid ho5
      have HB5 := Lib.hid (HB4.out.trans hb5)
      clear ho5 hb5 h63 hby
      have HOZ : Hid (Ow Frac.enc 2 w5 w2.heap.size 79 (.slice a5 (N + 1) c5) (N + 1) (mdN (crF ps l) (j + 1))) := Lib.hid (by rw [HMD.out, HYS.out]; exact HO5.out)
      go_wp2_with fail
      go_roundw
      case rel => exact ⟨j + 1, N + 1, a5, c5, by omega, by go_num, rfl, by omega, HOZ, HB5⟩
      case measure => simp [intOf]; omega
    · have hltI : ¬ (j : Int) + 1 < (kL : Int) := by omega
      have HKE : Hid (j = kL - 1) := Lib.hid (by omega)
      go_wp2_with fail
      go_ret2
      exact HEND.out _ _ _ _ _ HKE.out HO.out HB.out
theorem implMd_bad (ps : List Pt) (a : Option Addr) (n c : Nat) (l : Int) (w : World) (hn : n ≤ 200) (hl : ps.length = n) (hr : Rd Pt.enc 2 w a ps) (hc : cuCode ps l ≠ 0) : Calls Try.prog 39 #[.slice a n c, .int .i64 l] w fun e w' => e = .returned (.tuple #[.slice none 0 0, .int .i64 (cuCode ps l)]) ∧ Below w.heap.size w w' := by
  have C1 := Lib.hid (crossings_bad ps a n c l w hn hl hr hc)
  generalize cuCode ps l = K at *
  have hk : (K != 0) = true := by rw [bne_iff_ne]; exact hc
  clear hl hr hc
  go_enter Try.func39, Try.ntmps39
  go_wp2_with fail
  refine C1.out.mono ?_
  rintro e w1 ⟨rfl, hb1⟩
  go_wp2_with fail
  go_ret2
  exact ⟨rfl, hb1⟩
theorem specMd_bad (ps : List Pt) (a : Option Addr) (n c : Nat) (l : Int) (w : World) (hn : n ≤ 200) (hl : ps.length = n) (hr : Rd Pt.enc 2 w a ps) (hc : cuCode ps l ≠ 0) : Calls Try.prog 40 #[.slice a n c, .int .i64 l] w fun e w' => e = .returned (.tuple #[.slice none 0 0, .int .i64 (cuCode ps l)]) ∧ Below w.heap.size w w' := by
  have C1 := Lib.hid (l12Level_any ps a n c l w hn hl hr)
  generalize cuCode ps l = K at *
  have hk : (K != 0) = true := by rw [bne_iff_ne]; exact hc
  clear hl hr hc
  go_enter Try.func40, Try.ntmps40
  go_wp2_with fail
  refine C1.out.mono ?_
  rintro e w1 ⟨rfl, hb1⟩
  go_wp2_with fail
  go_ret2
  exact ⟨rfl, hb1⟩
end Go.Proofs.Ytlgjdfagmeehcaa
