/-
  Wide numbers of the reference: made, multiplied, compared, counted.
-/
import Derived.Test.YtloggipjmaiegaaVxB
import Derived.Test.YtloggipjmaiegaaVx1
import Derived.Deep.DeepCutAuto
namespace Go.Proofs.Ytloggipjmaiegaa
open Go.RowKit
set_option maxRecDepth 100000
set_option linter.unusedVariables false
set_option linter.unusedSimpArgs false
structure WideS (n : Int) (k : Nat) (cur : Int) (L : List Int) : Prop where
  len : L.length = k
  parts : PartsW L
  val : valW L + bW k * cur = n
  st : k = 0 ∧ cur < 1000000000000000000 ∨ k = 1 ∧ cur < 1000000000 ∨ k = 2 ∧ cur = 0
  nn : 0 ≤ cur
theorem WideS.start {n : Int} (h0 : 0 ≤ n) (h1 : n < 1000000000000000000) : WideS n 0 n [] := ⟨rfl, fun x hx => by simp at hx, by simp [valW, bW_zero], .inl ⟨rfl, h1⟩, h0⟩
theorem WideS.le {n cur : Int} {k : Nat} {L : List Int} (h : WideS n k cur L) (hc : 0 < cur) : k ≤ 1 ∧ cur < 1000000000000000000 := by
  have := h.st; omega
theorem WideS.step {n cur q r : Int} {k : Nat} {L M : List Int} (h : WideS n k cur L) (hq : cur / 1000000000 = q) (hr : cur % 1000000000 = r) (hM : L ++ [r] = M) (hc : 0 < cur) : WideS n (k + 1) q M := by
  subst hM hq hr
  refine ⟨by simp [h.len], h.parts.snoc (by omega) (by omega), ?_, by have := h.st; omega, by omega⟩
  rw [valW_snoc, h.len, bW_succ]
  have := h.val
  have e : cur = 1000000000 * (cur / 1000000000) + cur % 1000000000 := by omega
  generalize cur / 1000000000 = q at e ⊢
  generalize cur % 1000000000 = r at e ⊢
  subst e
  grind
theorem WideS.done {n cur : Int} {k : Nat} {L : List Int} (h : WideS n k cur L) (hc : ¬ 0 < cur) : valW L = n := by
  have e : cur = 0 := by have := h.nn; omega
  have := h.val
  rw [e] at this; omega
/-- a wide number that was made: at most so many parts, worth v -/
def WideC (m : Nat) (v : Int) (w : World) (e : Ending) (w' : World) : Prop :=
  ∃ (a' : Option Addr) (c' k : Nat) (L : List Int), e = .returned (.slice a' k c') ∧ k ≤ m ∧ L.length = k ∧ PartsW L ∧ valW L = v ∧ Rd eI 1 w' a' L ∧ Below w.heap.size w w'

set_option maxHeartbeats 1000000 in
theorem l12Wide_c (n : Int) (w : World) (h0 : 0 ≤ n) (h1 : n < 1000000000000000000) : Calls Try.prog 144 #[.int .i64 n] w (WideC 2 n w) := by
  have HST := Lib.hid (WideS.start h0 h1)
  go_enter Try.func144, Try.ntmps144
  have HO1 := Ow.built eI 1 w 2
  have hb4 := below_built w 2
  obtain ⟨wv2, HW3⟩ : ∃ wx, (w.alloc (.cells #[] 2)) = wx := ⟨_, rfl⟩
  rw [HW3] at HO1 hb4
  have HO1_ := Lib.hid HO1
  clear HO1
  have HO1 := HO1_
  clear HO1_
  have HW3_ := Lib.hid HW3
  clear HW3
  have HW3 := HW3_
  clear HW3_
  have hsz5 : w.heap.size ≤ wv2.heap.size := hb4.size
  have HB6 : Hid (Below w.heap.size w wv2) := Lib.hid hb4
  clear hb4
  go_wp2_with fail
  rw [HW3.out]
  clear HW3
  go_loopw [0, 3] (fun i v3 wr => ∃ (k : Nat) (cur : Int) (L : List Int) (aO : Option Addr) (cO : Nat), i = .int .i64 cur ∧ v3 = .slice aO k cO ∧ Hid (WideS n k cur L) ∧ Hid (Ow eI 1 wr w.heap.size 2 (.slice aO k cO) k L) ∧ w.heap.size ≤ wr.heap.size ∧ Hid (Below w.heap.size w wr)) (fun i _ _ => (intOf i).toNat)
  case atStart => exact ⟨0, n, [], _, _, rfl, rfl, HST, HO1, hsz5, HB6⟩
  case round =>
    obtain ⟨k, cur, L, aO, cO, rfl, rfl, HSk, HOk, hszk, HBk⟩ := hrel
    obtain ⟨wr7, hwr⟩ : ∃ wx, wx = wr := ⟨_, rfl⟩
    subst hwr
    have HB8 := HBk
    clear HBk
    by_cases hlt : 0 < cur
    · have hkk := HSk.out.le hlt
      have hk1 := hkk.1
      have hc1 := hkk.2
      clear hkk
      obtain ⟨Q, hQ⟩ : ∃ z, cur / 1000000000 = z := ⟨_, rfl⟩
      obtain ⟨R, hR⟩ : ∃ z, cur % 1000000000 = z := ⟨_, rfl⟩
      have HQ : Hid (Int.tdiv cur 1000000000 = Q ∧ cur / 1000000000 = Q) := Lib.hid ⟨by rw [Int.tdiv_eq_ediv_of_nonneg (by omega)]; exact hQ, hQ⟩
      have HR0 : Hid (Int.tmod cur 1000000000 = R ∧ cur % 1000000000 = R) := Lib.hid ⟨by rw [Int.tmod_eq_emod_of_nonneg (by omega)]; exact hR, hR⟩
      have hq0 : 0 ≤ Q := by omega
      have hq1 : Q < cur := by omega
      have hr0 : 0 ≤ R := by omega
      have hr1 : R < 1000000000 := by omega
      clear hQ hR
      have i9 : Int.tmod cur 1000000000 = R := HR0.out.1
      have i10 : IntKind.i64.wrap R = R := IntWalk.i64_in _ (by omega)
      have h63 : k + 1 ≤ maxLen := by unfold maxLen; omega
      have hby : (k + 1) * 8 ≤ 140737488355328 := by omega
      obtain ⟨ys17, hys⟩ : ∃ ys, L ++ [(R : Int)] = ys := ⟨_, rfl⟩
      have HYS11 := Lib.hid hys
      clear hys
      have hsz9 : w.heap.size ≤ wr7.heap.size := hszk
      go_wp2_with (at_builtin; refine wpl_app eI_len (by decide) _ rfl (.tmp 7) (.tmp 10) 30 rfl 2 _ 8 rfl Try.underlying30 infoIV w.heap.size _ k _ rfl wr7 _ _ rfl HOk.out (R) rfl rfl (eI_one _) h63 hby hsz9 ys17 HYS11 ?_)
      intro a15 c16 wv14 ho9 hb9 hs9
      have HO12 := Lib.hid ho9
      have HB13 : Hid (Below w.heap.size w wv14) := Lib.hid (HB8.out.trans (hb9.mono (Nat.le_refl _)))
      have hsz18 : w.heap.size ≤ wv14.heap.size := Nat.le_trans hszk (Nat.le_of_lt hs9)
      clear i9 i10
      clear ho9 hb9 h63 hby hsz9 hs9
      have i19 : Int.tdiv cur 1000000000 = Q := HQ.out.1
      have i20 : IntKind.i64.wrap Q = Q := IntWalk.i64_in _ (by omega)
      go_wp2_with fail
      go_roundw
      case rel => exact ⟨k + 1, Q, _, _, _, rfl, rfl, Lib.hid (HSk.out.step HQ.out.2 HR0.out.2 HYS11.out hlt), HO12, hsz18, HB13⟩
      case measure => simp [intOf]; omega
    · have hk2 : k ≤ 2 := by have := HSk.out.st; omega
      go_wp2_with fail
      go_ret
      exact ⟨_, _, _, L, rfl, hk2, HSk.out.len, HSk.out.parts, HSk.out.done (by omega), HOk.out.rd eI_len (by decide), HB8.out⟩

set_option maxHeartbeats 2000000 in
theorem l12Times_c (A : List Int) (a1 : Option Addr) (n1 c1 : Nat) (B : List Int) (a2 : Option Addr) (n2 c2 : Nat) (w : World) (h1 : n1 ≤ 100) (h2 : n2 ≤ 100) (hla : A.length = n1) (hlb : B.length = n2) (hpa : PartsW A) (hpb : PartsW B) (hra : Rd eI 1 w a1 A) (hrb : Rd eI 1 w a2 B) : Calls Try.prog 146 #[.slice a1 n1 c1, .slice a2 n2 c2] w (WideC (n1 + n2) (valW A * valW B) w) := by
  obtain ⟨NN, hNN⟩ : ∃ z, n1 + n2 = z := ⟨_, rfl⟩
  have HNN := Lib.hid hNN
  have HNNI : Hid ((n1 : Int) + (n2 : Int) = (NN : Int)) := Lib.hid (by omega)
  have HLA := Lib.hid hla
  have HLB := Lib.hid hlb
  have HRA := Lib.hid hra
  have HRB := Lib.hid hrb
  have HPA := Lib.hid hpa
  have HPB := Lib.hid hpb
  clear hla hlb hra hrb hpa hpb
  go_enter Try.func146, Try.ntmps146
  have i1 : IntKind.i64.wrap ((n1 : Int) + (n2 : Int)) = (NN : Int) := (IntWalk.i64_in _ (by omega)).trans HNNI.out
  obtain ⟨zs4, hzs⟩ : ∃ zs : List Int, List.replicate NN (0 : Int) = zs := ⟨_, rfl⟩
  have HZ5 := Lib.hid hzs
  clear hzs
  go_wp2_with (at_make; refine wpl_make eI_len (by decide) _ rfl _ _ 30 rfl 2 (0 : Int) _ 8 rfl Try.underlying30 infoIV .i64 .i64 _ _ NN rfl rfl (by first | rfl | omega) (by first | rfl | omega) (by omega) (by unfold maxLen; omega) zs4 HZ5 ?_)
  intro wv3 ho9 hb9 hs9
  have HO2 := Lib.hid ho9
  clear i1
  have HB7 : Hid (Below w.heap.size w wv3) := Lib.hid hb9
  have hsz8 : w.heap.size ≤ wv3.heap.size := Nat.le_of_lt hs9
  have hst9 : w.heap.size < wv3.heap.size := hs9
  clear ho9 hb9 hs9
  go_wp2_with fail
  go_loopw [6] (fun i wr => ∃ (k : Nat) (L : List Int), k ≤ n1 ∧ i = .int .i64 k ∧ Hid (TimesO A B L k) ∧ Hid (Ow eI 1 wr w.heap.size 2 (.slice (some ⟨w.heap.size, 0, none⟩) NN NN) NN L) ∧ w.heap.size ≤ wr.heap.size ∧ Hid (Below w.heap.size w wr)) (fun i _ => n1 - (intOf i).toNat)
  case atStart => exact ⟨0, _, Nat.zero_le _, rfl, Lib.hid (by rw [← HZ5.out, ← HNN.out, ← HLA.out, ← HLB.out]; exact TimesO.zero_ A B), HO2, hsz8, HB7⟩
  case round =>
    obtain ⟨k, L, hk, rfl, HSk, HOk, hszk, HBk⟩ := hrel
    obtain ⟨wr10, hwr⟩ : ∃ wx, wx = wr := ⟨_, rfl⟩
    subst hwr
    have HB11 := HBk
    clear HBk
    by_cases hlt : k < n1
    · obtain ⟨x, hx⟩ : ∃ z, (A)[k]? = some z := ⟨_, List.getElem?_eq_getElem (by rw [HLA.out]; omega)⟩
      have HXx := Lib.hid hx
      clear hx
      have hx9 := HPA.out x (List.mem_of_getElem? HXx.out)
      have hx0 := hx9.1
      have hx1 := hx9.2
      clear hx9
      obtain ⟨pl, hpl⟩ : ∃ z, k + n2 = z := ⟨_, rfl⟩
      have HPL := Lib.hid hpl
      have HPLI : Hid ((k : Int) + (n2 : Int) = (pl : Int)) := Lib.hid (by omega)
      go_wp2_with fail
      go_loopw [7, 8] (fun vm j wr => ∃ (r : Nat) (m : Int) (M : List Int), r ≤ n2 ∧ j = .int .i64 r ∧ vm = .int .i64 m ∧ Hid (TimesW A B M k r x m) ∧ Hid (Ow eI 1 wr w.heap.size 2 (.slice (some ⟨w.heap.size, 0, none⟩) NN NN) NN M) ∧ w.heap.size ≤ wr.heap.size ∧ Hid (Below w.heap.size w wr)) (fun _ j _ => n2 - (intOf j).toNat)
      case atStart => exact ⟨0, 0, _, Nat.zero_le _, rfl, rfl, Lib.hid (HSk.out.go x), HOk, hszk, HB11⟩
      case round =>
        obtain ⟨r, m, M, hr, rfl, rfl, HSw, HOr, hszr, HBk⟩ := hrel
        obtain ⟨wr12, hwr⟩ : ∃ wx, wx = wr := ⟨_, rfl⟩
        subst hwr
        have HB13 := HBk
        clear HBk
        by_cases hlt2 : r < n2
        · obtain ⟨y, hx⟩ : ∃ z, (B)[r]? = some z := ⟨_, List.getElem?_eq_getElem (by rw [HLB.out]; omega)⟩
          have HXy := Lib.hid hx
          clear hx
          obtain ⟨p, hp⟩ : ∃ z, k + r = z := ⟨_, rfl⟩
          have HP := Lib.hid hp
          have HPI : Hid ((k : Int) + (r : Int) = (p : Int)) := Lib.hid (by omega)
          obtain ⟨z, hx⟩ : ∃ z, M[p]? = some z := ⟨_, List.getElem?_eq_getElem (by rw [HOr.out.len eI_len (by decide)]; omega)⟩
          have HXz := Lib.hid hx
          clear hx
          have hz9 := HSw.out.parts z (List.mem_of_getElem? HXz.out)
          have hz0 := hz9.1
          have hz1 := hz9.2
          have hy9 := HPB.out y (List.mem_of_getElem? HXy.out)
          have hy0 := hy9.1
          have hy1 := hy9.2
          have hm0 := HSw.out.m0
          have hm1 := HSw.out.m1
          clear hz9 hy9
          obtain ⟨XY, hXY⟩ : ∃ z, x * y = z := ⟨_, rfl⟩
          have hxy0 : 0 ≤ XY := by rw [← hXY]; exact Int.mul_nonneg hx0 hy0
          have hxy1 : XY ≤ 999999999 * 999999999 := by rw [← hXY]; exact Int.mul_le_mul (by omega) (by omega) hy0 (by omega)
          have HXY := Lib.hid hXY
          clear hXY
          obtain ⟨V, hV⟩ : ∃ v, (z + XY) + m = v := ⟨_, rfl⟩
          have hv0 : 0 ≤ V := by omega
          have hv1 : V < 1000000000000000000 := by omega
          have HV := Lib.hid hV
          clear hV
          obtain ⟨Q, hQ⟩ : ∃ z, V / 1000000000 = z := ⟨_, rfl⟩
          obtain ⟨R, hR⟩ : ∃ z, V % 1000000000 = z := ⟨_, rfl⟩
          have HQ : Hid (Int.tdiv V 1000000000 = Q ∧ V / 1000000000 = Q) := Lib.hid ⟨by rw [Int.tdiv_eq_ediv_of_nonneg (by omega)]; exact hQ, hQ⟩
          have HR0 : Hid (Int.tmod V 1000000000 = R ∧ V % 1000000000 = R) := Lib.hid ⟨by rw [Int.tmod_eq_emod_of_nonneg (by omega)]; exact hR, hR⟩
          have hq0 : 0 ≤ Q := by omega
          have hq1 : Q < 1000000000 := by omega
          have hr0 : 0 ≤ R := by omega
          have hr1 : R < 1000000000 := by omega
          clear hQ hR
          have i14 : IntKind.i64.wrap ((k : Int) + (r : Int)) = (p : Int) := (IntWalk.i64_in _ (by omega)).trans HPI.out
          have c15 : wr12.cell? ⟨w.heap.size, p, none⟩ = some (.int .i64 z) := HOr.out.cell1V eI_len (by omega) HXz.out rfl
          have j16 : (0 : Int) ≤ (p : Nat) := by omega
          have j17 : ((p : Nat) : Int) < (NN : Nat) := by omega
          obtain ⟨b18, o19, hab, HC20⟩ := HRA.out.addr1 (by rw [HLA.out]; omega) (fun _ => rfl)
          have HC20_ := Lib.hid HC20
          clear HC20
          have HC20 := HC20_
          clear HC20_
          subst hab
          have c21 : wr12.cell? ⟨b18, o19 + k, none⟩ = some (.int .i64 x) := HC20.out k x HXx.out wr12 HB13.out
          have j22 : (0 : Int) ≤ (k : Nat) := by omega
          have j23 : ((k : Nat) : Int) < n1 := by omega
          obtain ⟨b24, o25, hab, HC26⟩ := HRB.out.addr1 (by rw [HLB.out]; omega) (fun _ => rfl)
          have HC26_ := Lib.hid HC26
          clear HC26
          have HC26 := HC26_
          clear HC26_
          subst hab
          have c27 : wr12.cell? ⟨b24, o25 + r, none⟩ = some (.int .i64 y) := HC26.out r y HXy.out wr12 HB13.out
          have j28 : (0 : Int) ≤ (r : Nat) := by omega
          have j29 : ((r : Nat) : Int) < n2 := by omega
          have i30 : IntKind.i64.wrap (x * y) = XY := (IntWalk.i64_in _ (by rw [HXY.out]; omega)).trans HXY.out
          have i31 : IntKind.i64.wrap (z + XY) = z + XY := IntWalk.i64_in _ (by omega)
          have i32 : IntKind.i64.wrap ((z + XY) + m) = V := (IntWalk.i64_in _ (by omega)).trans HV.out
          go_wp2_with fail
          go_quiet (fail)
          have hbq : Below wr12.heap.size wr12 (wr12.drewN nq) := below_drewN (Below.refl _ _) nq
          obtain ⟨wv33, hwq⟩ : ∃ wq, wr12.drewN nq = wq := ⟨_, rfl⟩
          rw [hwq] at hbq ⊢
          clear hwq
          clear i14 c15 j16 j17 c21 j22 j23 c27 j28 j29 i30 i31 i32
          have HB34 : Hid (Below w.heap.size w wv33) := Lib.hid (HB13.out.trans (hbq.mono HB13.out.size))
          have HO35 := Lib.hid (HOr.out.below hbq)
          have hsz36 : w.heap.size ≤ wv33.heap.size := Nat.le_trans hszr (hbq).size
          clear hbq
          have i37 : IntKind.i64.wrap ((k : Int) + (r : Int)) = (p : Int) := (IntWalk.i64_in _ (by omega)).trans HPI.out
          have i38 : Int.tmod V 1000000000 = R := HR0.out.1
          have i39 : IntKind.i64.wrap R = R := IntWalk.i64_in _ (by omega)
          have j40 : (0 : Int) ≤ (p : Nat) := by omega
          have j41 : ((p : Nat) : Int) < (NN : Nat) := by omega
          obtain ⟨ys44, hys⟩ : ∃ ys, (M).set p R = ys := ⟨_, rfl⟩
          have HY43 := Lib.hid hys
          clear hys
          have hlq : p < NN := by omega
          go_wp2_with (with_reducible refine wpl_set eI_len (by decide) _ rfl 2 (.tmp 52) (.tmp 51) rfl w.heap.size p rfl _ rfl R rfl szI (eI_one _) w.heap.size 2 NN NN p _ HO35.out hlq (by first | rfl | simp) w.heap.size (Nat.le_refl _) hsz36 _ HY43 ?_)
          intro wv45 ho9 hb9 _
          have HO42 := Lib.hid ho9
          clear i37 i38 i39 j40 j41
          have hsz46 : w.heap.size ≤ wv45.heap.size := Nat.le_trans hsz36 hb9.size
          have HB47 : Hid (Below w.heap.size w wv45) := Lib.hid (HB34.out.trans (hb9.mono (Nat.le_refl _)))
          clear ho9 hb9 hlq
          have i48 : Int.tdiv V 1000000000 = Q := HQ.out.1
          have i49 : IntKind.i64.wrap Q = Q := IntWalk.i64_in _ (by omega)
          have i50 : IntKind.i64.wrap ((r : Int) + 1) = (r : Int) + 1 := IntWalk.i64_in _ (by omega)
          go_wp2_with fail
          have HSn : Hid (TimesW A B ys44 k (r + 1) x Q) := Lib.hid (by have h9 := (HSw.out.step ⟨hx0, hx1⟩ HXy.out (z := z) (by rw [HP.out]; exact HXz.out) HPB.out (v := V) (by rw [HXY.out]; exact HV.out)).1; rw [HQ.out.2, HR0.out.2, HP.out, HY43.out] at h9; exact h9)
          go_roundw
          case rel => exact ⟨r + 1, Q, _, by omega, by go_num, rfl, HSn, HO42, hsz46, HB47⟩
          case measure => simp [intOf]; omega
        · have hkr : r = n2 := by omega
          have HKR := Lib.hid hkr
          clear hkr
          have hm0 := HSw.out.m0
          have hm1 := HSw.out.m1
          have i51 : IntKind.i64.wrap ((k : Int) + (n2 : Int)) = (pl : Int) := (IntWalk.i64_in _ (by omega)).trans HPLI.out
          have j52 : (0 : Int) ≤ (pl : Nat) := by omega
          have j53 : ((pl : Nat) : Int) < (NN : Nat) := by omega
          obtain ⟨ys56, hys⟩ : ∃ ys, (M).set pl m = ys := ⟨_, rfl⟩
          have HY55 := Lib.hid hys
          clear hys
          have hlq : pl < NN := by omega
          go_wp2_with (with_reducible refine wpl_set eI_len (by decide) _ rfl 2 (.tmp 61) (.tmp 60) rfl w.heap.size pl rfl _ rfl m rfl szI (eI_one _) w.heap.size 2 NN NN pl _ HOr.out hlq (by first | rfl | simp) w.heap.size (Nat.le_refl _) hszr _ HY55 ?_)
          intro wv57 ho9 hb9 _
          have HO54 := Lib.hid ho9
          clear i51 j52 j53
          have hsz58 : w.heap.size ≤ wv57.heap.size := Nat.le_trans hszr hb9.size
          have HB59 : Hid (Below w.heap.size w wv57) := Lib.hid (HB13.out.trans (hb9.mono (Nat.le_refl _)))
          clear ho9 hb9 hlq
          have i60 : IntKind.i64.wrap ((k : Int) + 1) = (k : Int) + 1 := IntWalk.i64_in _ (by omega)
          go_wp2_with fail
          have HSo : Hid (TimesO A B ys56 (k + 1)) := Lib.hid (by have h9 := HSw.out; rw [HKR.out, ← HLB.out] at h9; have h8 := h9.last HXx.out; rw [HLB.out, HPL.out, HY55.out] at h8; exact h8)
          go_roundw
          case rel => exact ⟨k + 1, _, by omega, by go_num, HSo, HO54, hsz58, HB59⟩
          case measure => simp [intOf]; omega
    · have hkn : k = n1 := by omega
      have HKN := Lib.hid hkn
      clear hkn
      go_wp2_with fail
      go_ret
      exact ⟨_, _, _, L, rfl, by omega, by rw [HSk.out.len, HLA.out, HLB.out, HNN.out], HSk.out.parts, by have h9 := HSk.out; rw [HKN.out, ← HLA.out] at h9; exact h9.done, HOk.out.rd eI_len (by decide), HB11.out⟩

theorem digW_get {l : List Int} {i : Nat} (h : i < l.length) : l[i]? = some (digW l i) := by
  rw [digW_at (List.getElem?_eq_getElem h)]; exact List.getElem?_eq_getElem h
theorem cmp_step {A B : List Int} {j : Nat} {x y : Int} (he : valW (A.drop (j + 1)) = valW (B.drop (j + 1))) (h1 : digW A j = x) (h2 : digW B j = y) (h : ¬ x < y) (h' : ¬ y < x) : valW (A.drop j) = valW (B.drop j) := by
  rw [drop_step A j, drop_step B j, he, h1, h2]; omega
theorem cmp_lt {A B : List Int} (hA : PartsW A) (hB : PartsW B) {j : Nat} {x y : Int} (he : valW (A.drop (j + 1)) = valW (B.drop (j + 1))) (h1 : digW A j = x) (h2 : digW B j = y) (h : x < y) : sgnI (valW A) (valW B) = -1 := by
  unfold sgnI; rw [if_pos (valW_less hA hB he (by rw [h1, h2]; exact h))]
theorem cmp_gt {A B : List Int} (hA : PartsW A) (hB : PartsW B) {j : Nat} {x y : Int} (he : valW (A.drop (j + 1)) = valW (B.drop (j + 1))) (h1 : digW A j = x) (h2 : digW B j = y) (h : y < x) : sgnI (valW A) (valW B) = 1 := by
  have := valW_less hB hA he.symm (by rw [h1, h2]; exact h)
  unfold sgnI; rw [if_neg (by omega), if_pos this]
theorem cmp_eq {A B : List Int} {k : Nat} (hk : k = 0) (he : valW (A.drop k) = valW (B.drop k)) : sgnI (valW A) (valW B) = 0 := by
  subst hk
  rw [List.drop_zero, List.drop_zero] at he
  unfold sgnI; rw [if_neg (by omega), if_neg (by omega)]

set_option maxHeartbeats 2000000 in
theorem l12Compare_c (A : List Int) (a1 : Option Addr) (n1 c1 : Nat) (B : List Int) (a2 : Option Addr) (n2 c2 : Nat) (w : World) (h1 : n1 ≤ 100) (h2 : n2 ≤ 100) (hla : A.length = n1) (hlb : B.length = n2) (hpa : PartsW A) (hpb : PartsW B) (hra : Rd eI 1 w a1 A) (hrb : Rd eI 1 w a2 B) : Calls Try.prog 248 #[.slice a1 n1 c1, .slice a2 n2 c2] w fun e w' => e = .returned (.int .i64 (sgnI (valW A) (valW B))) ∧ Below w.heap.size w w' := by
  have HLA := Lib.hid hla
  have HLB := Lib.hid hlb
  have HRA := Lib.hid hra
  have HRB := Lib.hid hrb
  have HPA := Lib.hid hpa
  have HPB := Lib.hid hpb
  clear hla hlb hra hrb hpa hpb
  go_enter Try.func248, Try.ntmps248
  by_cases hc1 : (n1 : Int) < (n2 : Int)
  · have d2 : decide ((n1 : Int) < (n2 : Int)) = true := decide_eq_true hc1
    have d2n : decide (n1 < n2) = true := decide_eq_true (by omega)
    have i3 : IntKind.i64.wrap ((n2 : Int) - 1) = (n2 : Int) - 1 := IntWalk.i64_in _ (by omega)
    go_wp2_with fail
    go_loopw [6] (fun i wr => ∃ (k : Nat), k ≤ n2 ∧ i = .int .i64 ((k : Int) - 1) ∧ Hid (valW (A.drop k) = valW (B.drop k)) ∧ Hid (Below w.heap.size w wr)) (fun i _ => (intOf i + 1).toNat)
    case atStart => exact ⟨n2, Nat.le_refl _, rfl, Lib.hid (by rw [List.drop_eq_nil_of_le (by rw [HLA.out]; omega), List.drop_eq_nil_of_le (by rw [HLB.out]; omega)]), Lib.hid (Below.refl _ _)⟩
    case round =>
      obtain ⟨k, hk, rfl, HEk, HBk⟩ := hrel
      obtain ⟨wr4, hwr⟩ : ∃ wx, wx = wr := ⟨_, rfl⟩
      subst hwr
      have HB5 := HBk
      clear HBk
      by_cases hlt : 0 ≤ (k : Int) - 1
      · have dd : decide ((k : Int) - 1 < (n2 : Int)) = true := decide_eq_true (by omega)
        obtain ⟨j, hj⟩ : ∃ j, k = j + 1 := ⟨k - 1, by omega⟩
        have HEj : Hid (valW (A.drop (j + 1)) = valW (B.drop (j + 1))) := Lib.hid (by rw [← hj]; exact HEk.out)
        obtain ⟨x, hdx⟩ : ∃ z, digW A j = z := ⟨_, rfl⟩
        obtain ⟨y, hdy⟩ : ∃ z, digW B j = z := ⟨_, rfl⟩
        have HDx := Lib.hid hdx
        have HDy := Lib.hid hdy
        clear hdx hdy
        by_cases hc6 : (k : Int) - 1 < (n1 : Int)
        · have d7 : decide ((k : Int) - 1 < (n1 : Int)) = true := decide_eq_true hc6
          by_cases hc20 : x < y
          · have d21 : decide (x < y) = true := decide_eq_true hc20
            have HXx : Hid (A[j]? = some x) := Lib.hid (by rw [← HDx.out]; exact digW_get (by rw [HLA.out]; omega))
            obtain ⟨b22, o23, hab, HC24⟩ := HRA.out.addr1 (by rw [HLA.out]; omega) (fun _ => rfl)
            have HC24_ := Lib.hid HC24
            clear HC24
            have HC24 := HC24_
            clear HC24_
            subst hab
            have c25 : wr4.cell? ⟨b22, o23 + j, none⟩ = some (.int .i64 x) := HC24.out j x HXx.out wr4 HB5.out
            have j26 : (0 : Int) ≤ (k : Int) - 1 := by omega
            have j27 : (k : Int) - 1 < (n1 : Int) := by omega
            have j28 : ((k : Int) - 1).toNat = j := by omega
            have HXy : Hid (B[j]? = some y) := Lib.hid (by rw [← HDy.out]; exact digW_get (by rw [HLB.out]; omega))
            obtain ⟨b29, o30, hab, HC31⟩ := HRB.out.addr1 (by rw [HLB.out]; omega) (fun _ => rfl)
            have HC31_ := Lib.hid HC31
            clear HC31
            have HC31 := HC31_
            clear HC31_
            subst hab
            have c32 : wr4.cell? ⟨b29, o30 + j, none⟩ = some (.int .i64 y) := HC31.out j y HXy.out wr4 HB5.out
            have j33 : (k : Int) - 1 < (n2 : Int) := by omega
            go_wp2_with fail
            go_ret
            exact ⟨by rw [cmp_lt HPA.out HPB.out HEj.out (digW_at HXx.out) (digW_at HXy.out) (by omega)] <;> rfl, HB5.out⟩
          · have d34 : decide (x < y) = false := decide_eq_false hc20
            by_cases hc47 : y < x
            · have d48 : decide (y < x) = true := decide_eq_true hc47
              have HXx : Hid (A[j]? = some x) := Lib.hid (by rw [← HDx.out]; exact digW_get (by rw [HLA.out]; omega))
              obtain ⟨b49, o50, hab, HC51⟩ := HRA.out.addr1 (by rw [HLA.out]; omega) (fun _ => rfl)
              have HC51_ := Lib.hid HC51
              clear HC51
              have HC51 := HC51_
              clear HC51_
              subst hab
              have c52 : wr4.cell? ⟨b49, o50 + j, none⟩ = some (.int .i64 x) := HC51.out j x HXx.out wr4 HB5.out
              have j53 : (0 : Int) ≤ (k : Int) - 1 := by omega
              have j54 : (k : Int) - 1 < (n1 : Int) := by omega
              have j55 : ((k : Int) - 1).toNat = j := by omega
              have HXy : Hid (B[j]? = some y) := Lib.hid (by rw [← HDy.out]; exact digW_get (by rw [HLB.out]; omega))
              obtain ⟨b56, o57, hab, HC58⟩ := HRB.out.addr1 (by rw [HLB.out]; omega) (fun _ => rfl)
              have HC58_ := Lib.hid HC58
              clear HC58
              have HC58 := HC58_
              clear HC58_
              subst hab
              have c59 : wr4.cell? ⟨b56, o57 + j, none⟩ = some (.int .i64 y) := HC58.out j y HXy.out wr4 HB5.out
              have j60 : (k : Int) - 1 < (n2 : Int) := by omega
              go_wp2_with fail
              go_ret
              exact ⟨by rw [cmp_gt HPA.out HPB.out HEj.out (digW_at HXx.out) (digW_at HXy.out) (by omega)] <;> rfl, HB5.out⟩
            · have d61 : decide (y < x) = false := decide_eq_false hc47
              have HXx : Hid (A[j]? = some x) := Lib.hid (by rw [← HDx.out]; exact digW_get (by rw [HLA.out]; omega))
              obtain ⟨b62, o63, hab, HC64⟩ := HRA.out.addr1 (by rw [HLA.out]; omega) (fun _ => rfl)
              have HC64_ := Lib.hid HC64
              clear HC64
              have HC64 := HC64_
              clear HC64_
              subst hab
              have c65 : wr4.cell? ⟨b62, o63 + j, none⟩ = some (.int .i64 x) := HC64.out j x HXx.out wr4 HB5.out
              have j66 : (0 : Int) ≤ (k : Int) - 1 := by omega
              have j67 : (k : Int) - 1 < (n1 : Int) := by omega
              have j68 : ((k : Int) - 1).toNat = j := by omega
              have HXy : Hid (B[j]? = some y) := Lib.hid (by rw [← HDy.out]; exact digW_get (by rw [HLB.out]; omega))
              obtain ⟨b69, o70, hab, HC71⟩ := HRB.out.addr1 (by rw [HLB.out]; omega) (fun _ => rfl)
              have HC71_ := Lib.hid HC71
              clear HC71
              have HC71 := HC71_
              clear HC71_
              subst hab
              have c72 : wr4.cell? ⟨b69, o70 + j, none⟩ = some (.int .i64 y) := HC71.out j y HXy.out wr4 HB5.out
              have j73 : (k : Int) - 1 < (n2 : Int) := by omega
              have i74 : IntKind.i64.wrap (((k : Int) - 1) - 1) = ((k : Int) - 1) - 1 := IntWalk.i64_in _ (by omega)
              go_wp2_with fail
              go_roundw
              case rel => exact ⟨j, by omega, by go_num, Lib.hid (cmp_step HEj.out (digW_at HXx.out) (digW_at HXy.out) (by omega) (by omega)), HB5⟩
              case measure => simp [intOf]; omega
        · have d75 : decide ((k : Int) - 1 < (n1 : Int)) = false := decide_eq_false hc6
          by_cases hc83 : 0 < y
          · have d84 : decide (0 < y) = true := decide_eq_true hc83
            have HXy : Hid (B[j]? = some y) := Lib.hid (by rw [← HDy.out]; exact digW_get (by rw [HLB.out]; omega))
            obtain ⟨b85, o86, hab, HC87⟩ := HRB.out.addr1 (by rw [HLB.out]; omega) (fun _ => rfl)
            have HC87_ := Lib.hid HC87
            clear HC87
            have HC87 := HC87_
            clear HC87_
            subst hab
            have c88 : wr4.cell? ⟨b85, o86 + j, none⟩ = some (.int .i64 y) := HC87.out j y HXy.out wr4 HB5.out
            have j89 : (0 : Int) ≤ (k : Int) - 1 := by omega
            have j90 : (k : Int) - 1 < (n2 : Int) := by omega
            have j91 : ((k : Int) - 1).toNat = j := by omega
            go_wp2_with fail
            go_ret
            exact ⟨by rw [cmp_lt HPA.out HPB.out HEj.out (digW_out (by rw [HLA.out]; omega)) (digW_at HXy.out) (by omega)] <;> rfl, HB5.out⟩
          · have d92 : decide (0 < y) = false := decide_eq_false hc83
            by_cases hc100 : y < 0
            · have d101 : decide (y < 0) = true := decide_eq_true hc100
              have HXy : Hid (B[j]? = some y) := Lib.hid (by rw [← HDy.out]; exact digW_get (by rw [HLB.out]; omega))
              obtain ⟨b102, o103, hab, HC104⟩ := HRB.out.addr1 (by rw [HLB.out]; omega) (fun _ => rfl)
              have HC104_ := Lib.hid HC104
              clear HC104
              have HC104 := HC104_
              clear HC104_
              subst hab
              have c105 : wr4.cell? ⟨b102, o103 + j, none⟩ = some (.int .i64 y) := HC104.out j y HXy.out wr4 HB5.out
              have j106 : (0 : Int) ≤ (k : Int) - 1 := by omega
              have j107 : (k : Int) - 1 < (n2 : Int) := by omega
              have j108 : ((k : Int) - 1).toNat = j := by omega
              go_wp2_with fail
              go_ret
              exact ⟨by rw [cmp_gt HPA.out HPB.out HEj.out (digW_out (by rw [HLA.out]; omega)) (digW_at HXy.out) (by omega)] <;> rfl, HB5.out⟩
            · have d109 : decide (y < 0) = false := decide_eq_false hc100
              have HXy : Hid (B[j]? = some y) := Lib.hid (by rw [← HDy.out]; exact digW_get (by rw [HLB.out]; omega))
              obtain ⟨b110, o111, hab, HC112⟩ := HRB.out.addr1 (by rw [HLB.out]; omega) (fun _ => rfl)
              have HC112_ := Lib.hid HC112
              clear HC112
              have HC112 := HC112_
              clear HC112_
              subst hab
              have c113 : wr4.cell? ⟨b110, o111 + j, none⟩ = some (.int .i64 y) := HC112.out j y HXy.out wr4 HB5.out
              have j114 : (0 : Int) ≤ (k : Int) - 1 := by omega
              have j115 : (k : Int) - 1 < (n2 : Int) := by omega
              have j116 : ((k : Int) - 1).toNat = j := by omega
              have i117 : IntKind.i64.wrap (((k : Int) - 1) - 1) = ((k : Int) - 1) - 1 := IntWalk.i64_in _ (by omega)
              go_wp2_with fail
              go_roundw
              case rel => exact ⟨j, by omega, by go_num, Lib.hid (cmp_step HEj.out (digW_out (by rw [HLA.out]; omega)) (digW_at HXy.out) (by omega) (by omega)), HB5⟩
              case measure => simp [intOf]; omega
      · go_wp2_with fail
        go_ret
        exact ⟨by rw [cmp_eq (by omega) HEk.out] <;> rfl, HB5.out⟩
  · have d118 : decide ((n1 : Int) < (n2 : Int)) = false := decide_eq_false hc1
    have d118n : decide (n1 < n2) = false := decide_eq_false (by omega)
    have i119 : IntKind.i64.wrap ((n1 : Int) - 1) = (n1 : Int) - 1 := IntWalk.i64_in _ (by omega)
    go_wp2_with fail
    go_loopw [6] (fun i wr => ∃ (k : Nat), k ≤ n1 ∧ i = .int .i64 ((k : Int) - 1) ∧ Hid (valW (A.drop k) = valW (B.drop k)) ∧ Hid (Below w.heap.size w wr)) (fun i _ => (intOf i + 1).toNat)
    case atStart => exact ⟨n1, Nat.le_refl _, rfl, Lib.hid (by rw [List.drop_eq_nil_of_le (by rw [HLA.out]; omega), List.drop_eq_nil_of_le (by rw [HLB.out]; omega)]), Lib.hid (Below.refl _ _)⟩
    case round =>
      obtain ⟨k, hk, rfl, HEk, HBk⟩ := hrel
      obtain ⟨wr120, hwr⟩ : ∃ wx, wx = wr := ⟨_, rfl⟩
      subst hwr
      have HB121 := HBk
      clear HBk
      by_cases hlt : 0 ≤ (k : Int) - 1
      · have dd : decide ((k : Int) - 1 < (n1 : Int)) = true := decide_eq_true (by omega)
        obtain ⟨j, hj⟩ : ∃ j, k = j + 1 := ⟨k - 1, by omega⟩
        have HEj : Hid (valW (A.drop (j + 1)) = valW (B.drop (j + 1))) := Lib.hid (by rw [← hj]; exact HEk.out)
        obtain ⟨x, hdx⟩ : ∃ z, digW A j = z := ⟨_, rfl⟩
        obtain ⟨y, hdy⟩ : ∃ z, digW B j = z := ⟨_, rfl⟩
        have HDx := Lib.hid hdx
        have HDy := Lib.hid hdy
        clear hdx hdy
        by_cases hc129 : (k : Int) - 1 < (n2 : Int)
        · have d130 : decide ((k : Int) - 1 < (n2 : Int)) = true := decide_eq_true hc129
          by_cases hc143 : x < y
          · have d144 : decide (x < y) = true := decide_eq_true hc143
            have HXx : Hid (A[j]? = some x) := Lib.hid (by rw [← HDx.out]; exact digW_get (by rw [HLA.out]; omega))
            obtain ⟨b145, o146, hab, HC147⟩ := HRA.out.addr1 (by rw [HLA.out]; omega) (fun _ => rfl)
            have HC147_ := Lib.hid HC147
            clear HC147
            have HC147 := HC147_
            clear HC147_
            subst hab
            have c148 : wr120.cell? ⟨b145, o146 + j, none⟩ = some (.int .i64 x) := HC147.out j x HXx.out wr120 HB121.out
            have j149 : (0 : Int) ≤ (k : Int) - 1 := by omega
            have j150 : (k : Int) - 1 < (n1 : Int) := by omega
            have j151 : ((k : Int) - 1).toNat = j := by omega
            have HXy : Hid (B[j]? = some y) := Lib.hid (by rw [← HDy.out]; exact digW_get (by rw [HLB.out]; omega))
            obtain ⟨b152, o153, hab, HC154⟩ := HRB.out.addr1 (by rw [HLB.out]; omega) (fun _ => rfl)
            have HC154_ := Lib.hid HC154
            clear HC154
            have HC154 := HC154_
            clear HC154_
            subst hab
            have c155 : wr120.cell? ⟨b152, o153 + j, none⟩ = some (.int .i64 y) := HC154.out j y HXy.out wr120 HB121.out
            have j156 : (k : Int) - 1 < (n2 : Int) := by omega
            go_wp2_with fail
            go_ret
            exact ⟨by rw [cmp_lt HPA.out HPB.out HEj.out (digW_at HXx.out) (digW_at HXy.out) (by omega)] <;> rfl, HB121.out⟩
          · have d157 : decide (x < y) = false := decide_eq_false hc143
            by_cases hc170 : y < x
            · have d171 : decide (y < x) = true := decide_eq_true hc170
              have HXx : Hid (A[j]? = some x) := Lib.hid (by rw [← HDx.out]; exact digW_get (by rw [HLA.out]; omega))
              obtain ⟨b172, o173, hab, HC174⟩ := HRA.out.addr1 (by rw [HLA.out]; omega) (fun _ => rfl)
              have HC174_ := Lib.hid HC174
              clear HC174
              have HC174 := HC174_
              clear HC174_
              subst hab
              have c175 : wr120.cell? ⟨b172, o173 + j, none⟩ = some (.int .i64 x) := HC174.out j x HXx.out wr120 HB121.out
              have j176 : (0 : Int) ≤ (k : Int) - 1 := by omega
              have j177 : (k : Int) - 1 < (n1 : Int) := by omega
              have j178 : ((k : Int) - 1).toNat = j := by omega
              have HXy : Hid (B[j]? = some y) := Lib.hid (by rw [← HDy.out]; exact digW_get (by rw [HLB.out]; omega))
              obtain ⟨b179, o180, hab, HC181⟩ := HRB.out.addr1 (by rw [HLB.out]; omega) (fun _ => rfl)
              have HC181_ := Lib.hid HC181
              clear HC181
              have HC181 := HC181_
              clear HC181_
              subst hab
              have c182 : wr120.cell? ⟨b179, o180 + j, none⟩ = some (.int .i64 y) := HC181.out j y HXy.out wr120 HB121.out
              have j183 : (k : Int) - 1 < (n2 : Int) := by omega
              go_wp2_with fail
              go_ret
              exact ⟨by rw [cmp_gt HPA.out HPB.out HEj.out (digW_at HXx.out) (digW_at HXy.out) (by omega)] <;> rfl, HB121.out⟩
            · have d184 : decide (y < x) = false := decide_eq_false hc170
              have HXx : Hid (A[j]? = some x) := Lib.hid (by rw [← HDx.out]; exact digW_get (by rw [HLA.out]; omega))
              obtain ⟨b185, o186, hab, HC187⟩ := HRA.out.addr1 (by rw [HLA.out]; omega) (fun _ => rfl)
              have HC187_ := Lib.hid HC187
              clear HC187
              have HC187 := HC187_
              clear HC187_
              subst hab
              have c188 : wr120.cell? ⟨b185, o186 + j, none⟩ = some (.int .i64 x) := HC187.out j x HXx.out wr120 HB121.out
              have j189 : (0 : Int) ≤ (k : Int) - 1 := by omega
              have j190 : (k : Int) - 1 < (n1 : Int) := by omega
              have j191 : ((k : Int) - 1).toNat = j := by omega
              have HXy : Hid (B[j]? = some y) := Lib.hid (by rw [← HDy.out]; exact digW_get (by rw [HLB.out]; omega))
              obtain ⟨b192, o193, hab, HC194⟩ := HRB.out.addr1 (by rw [HLB.out]; omega) (fun _ => rfl)
              have HC194_ := Lib.hid HC194
              clear HC194
              have HC194 := HC194_
              clear HC194_
              subst hab
              have c195 : wr120.cell? ⟨b192, o193 + j, none⟩ = some (.int .i64 y) := HC194.out j y HXy.out wr120 HB121.out
              have j196 : (k : Int) - 1 < (n2 : Int) := by omega
              have i197 : IntKind.i64.wrap (((k : Int) - 1) - 1) = ((k : Int) - 1) - 1 := IntWalk.i64_in _ (by omega)
              go_wp2_with fail
              go_roundw
              case rel => exact ⟨j, by omega, by go_num, Lib.hid (cmp_step HEj.out (digW_at HXx.out) (digW_at HXy.out) (by omega) (by omega)), HB121⟩
              case measure => simp [intOf]; omega
        · have d198 : decide ((k : Int) - 1 < (n2 : Int)) = false := decide_eq_false hc129
          by_cases hc206 : x < 0
          · have d207 : decide (x < 0) = true := decide_eq_true hc206
            have HXx : Hid (A[j]? = some x) := Lib.hid (by rw [← HDx.out]; exact digW_get (by rw [HLA.out]; omega))
            obtain ⟨b208, o209, hab, HC210⟩ := HRA.out.addr1 (by rw [HLA.out]; omega) (fun _ => rfl)
            have HC210_ := Lib.hid HC210
            clear HC210
            have HC210 := HC210_
            clear HC210_
            subst hab
            have c211 : wr120.cell? ⟨b208, o209 + j, none⟩ = some (.int .i64 x) := HC210.out j x HXx.out wr120 HB121.out
            have j212 : (0 : Int) ≤ (k : Int) - 1 := by omega
            have j213 : (k : Int) - 1 < (n1 : Int) := by omega
            have j214 : ((k : Int) - 1).toNat = j := by omega
            go_wp2_with fail
            go_ret
            exact ⟨by rw [cmp_lt HPA.out HPB.out HEj.out (digW_at HXx.out) (digW_out (by rw [HLB.out]; omega)) (by omega)] <;> rfl, HB121.out⟩
          · have d215 : decide (x < 0) = false := decide_eq_false hc206
            by_cases hc223 : 0 < x
            · have d224 : decide (0 < x) = true := decide_eq_true hc223
              have HXx : Hid (A[j]? = some x) := Lib.hid (by rw [← HDx.out]; exact digW_get (by rw [HLA.out]; omega))
              obtain ⟨b225, o226, hab, HC227⟩ := HRA.out.addr1 (by rw [HLA.out]; omega) (fun _ => rfl)
              have HC227_ := Lib.hid HC227
              clear HC227
              have HC227 := HC227_
              clear HC227_
              subst hab
              have c228 : wr120.cell? ⟨b225, o226 + j, none⟩ = some (.int .i64 x) := HC227.out j x HXx.out wr120 HB121.out
              have j229 : (0 : Int) ≤ (k : Int) - 1 := by omega
              have j230 : (k : Int) - 1 < (n1 : Int) := by omega
              have j231 : ((k : Int) - 1).toNat = j := by omega
              go_wp2_with fail
              go_ret
              exact ⟨by rw [cmp_gt HPA.out HPB.out HEj.out (digW_at HXx.out) (digW_out (by rw [HLB.out]; omega)) (by omega)] <;> rfl, HB121.out⟩
            · have d232 : decide (0 < x) = false := decide_eq_false hc223
              have HXx : Hid (A[j]? = some x) := Lib.hid (by rw [← HDx.out]; exact digW_get (by rw [HLA.out]; omega))
              obtain ⟨b233, o234, hab, HC235⟩ := HRA.out.addr1 (by rw [HLA.out]; omega) (fun _ => rfl)
              have HC235_ := Lib.hid HC235
              clear HC235
              have HC235 := HC235_
              clear HC235_
              subst hab
              have c236 : wr120.cell? ⟨b233, o234 + j, none⟩ = some (.int .i64 x) := HC235.out j x HXx.out wr120 HB121.out
              have j237 : (0 : Int) ≤ (k : Int) - 1 := by omega
              have j238 : (k : Int) - 1 < (n1 : Int) := by omega
              have j239 : ((k : Int) - 1).toNat = j := by omega
              have i240 : IntKind.i64.wrap (((k : Int) - 1) - 1) = ((k : Int) - 1) - 1 := IntWalk.i64_in _ (by omega)
              go_wp2_with fail
              go_roundw
              case rel => exact ⟨j, by omega, by go_num, Lib.hid (cmp_step HEj.out (digW_at HXx.out) (digW_out (by rw [HLB.out]; omega)) (by omega) (by omega)), HB121⟩
              case measure => simp [intOf]; omega
      · go_wp2_with fail
        go_ret
        exact ⟨by rw [cmp_eq (by omega) HEk.out] <;> rfl, HB121.out⟩

/-- at a number k the product is reached -/
def goodW (t w : Int) (s : Bool) (k : Int) : Prop := t < w * (2 * k + 1) ∨ (s = false ∧ t = w * (2 * k + 1))
/-- the least number that reaches it -/
structure CountW (t w : Int) (s : Bool) (k : Int) : Prop where
  k0 : 0 ≤ k
  k1 : k ≤ 50000
  hi : k = 50000 ∨ goodW t w s k
  lo : k = 0 ∨ ¬ goodW t w s (k - 1)
theorem goodW_yes {t w x od q : Int} {s : Bool} (hx : w * (2 * q + 1) = x) (ho : sgnI t x = od) (h : od < 0 ∨ (s = false ∧ od = 0)) : goodW t w s q := by
  unfold goodW; rw [hx]
  unfold sgnI at ho
  rcases h with h | ⟨h1, h⟩
  · left
    by_cases h2 : t < x
    · exact h2
    · rw [if_neg h2] at ho
      by_cases h3 : x < t
      · rw [if_pos h3] at ho; omega
      · rw [if_neg h3] at ho; omega
  · right
    refine ⟨h1, ?_⟩
    by_cases h2 : t < x
    · rw [if_pos h2] at ho; omega
    · rw [if_neg h2] at ho
      by_cases h3 : x < t
      · rw [if_pos h3] at ho; omega
      · omega
theorem goodW_no {t w x od q : Int} {s : Bool} (hx : w * (2 * q + 1) = x) (ho : sgnI t x = od) (h1 : ¬ od < 0) (h2 : s = true ∨ ¬ od = 0) : ¬ goodW t w s q := by
  unfold goodW; rw [hx]
  unfold sgnI at ho
  intro h
  rcases h with h | ⟨h3, h⟩
  · rw [if_pos h] at ho; omega
  · rw [if_neg (by omega), if_neg (by omega)] at ho
    rcases h2 with h2 | h2
    · rw [h2] at h3; exact absurd h3 (by decide)
    · omega
/-- the halving on its way -/
structure CountS (t w : Int) (s : Bool) (lo hi : Int) : Prop where
  l0 : -1 ≤ lo
  lh : lo < hi
  h0 : hi ≤ 50000
  hi : hi = 50000 ∨ goodW t w s hi
  lo : lo = -1 ∨ ¬ goodW t w s lo
theorem CountS.done {t w lo hi : Int} {s : Bool} (h : CountS t w s lo hi) (he : ¬ 1 < hi - lo) : CountW t w s hi := by
  have h1 := h.l0
  have h2 := h.lh
  have e : lo = hi - 1 := by omega
  refine ⟨by omega, h.h0, h.hi, ?_⟩
  rcases h.lo with h3 | h3
  · left; omega
  · right; rw [← e]; exact h3

set_option maxHeartbeats 2000000 in
theorem l12Count_c (T : List Int) (a1 : Option Addr) (n1 c1 : Nat) (U : List Int) (a2 : Option Addr) (n2 c2 : Nat) (s : Bool) (w : World) (h1 : n1 ≤ 90) (h2 : n2 ≤ 90) (hla : T.length = n1) (hlb : U.length = n2) (hpa : PartsW T) (hpb : PartsW U) (hra : Rd eI 1 w a1 T) (hrb : Rd eI 1 w a2 U) : Calls Try.prog 147 #[.slice a1 n1 c1, .slice a2 n2 c2, .bool s] w fun e w' => ∃ k, e = .returned (.int .i64 k) ∧ CountW (valW T) (valW U) s k ∧ Below w.heap.size w w' := by
  cases s with
  | false =>
    have HLA := Lib.hid hla
    have HLB := Lib.hid hlb
    have HRA := Lib.hid hra
    have HRB := Lib.hid hrb
    have HPA := Lib.hid hpa
    have HPB := Lib.hid hpb
    clear hla hlb hra hrb hpa hpb
    go_enter Try.func147, Try.ntmps147
    go_wp2_with fail
    go_loopw [7, 8] (fun vl vh wr => ∃ (lo hi : Int), vl = .int .i64 lo ∧ vh = .int .i64 hi ∧ Hid (CountS (valW T) (valW U) false lo hi) ∧ Hid (Below w.heap.size w wr)) (fun vl vh _ => (intOf vh - intOf vl).toNat)
    case atStart => exact ⟨-1, 50000, rfl, rfl, Lib.hid ⟨by omega, by omega, by omega, .inl rfl, .inl rfl⟩, Lib.hid (Below.refl _ _)⟩
    case round =>
      obtain ⟨lo, hi, rfl, rfl, HSk, HBk⟩ := hrel
      obtain ⟨wr1, hwr⟩ : ∃ wx, wx = wr := ⟨_, rfl⟩
      subst hwr
      have HB2 := HBk
      clear HBk
      have hl0 := HSk.out.l0
      have hlh := HSk.out.lh
      have hh0 := HSk.out.h0
      by_cases hlt : 1 < hi - lo
      · have hl0 := HSk.out.l0
        have hh0 := HSk.out.h0
        obtain ⟨Q, hQ⟩ : ∃ z, (lo + hi) / 2 = z := ⟨_, rfl⟩
        have HQ : Hid (Int.tdiv (lo + hi) 2 = Q) := Lib.hid (by rw [Int.tdiv_eq_ediv_of_nonneg (by omega)]; exact hQ)
        have hq0 : lo < Q := by omega
        have hq1 : Q < hi := by omega
        clear hQ
        have i3 : IntKind.i64.wrap (hi - lo) = hi - lo := IntWalk.i64_in _ (by omega)
        have i4 : IntKind.i64.wrap (lo + hi) = lo + hi := IntWalk.i64_in _ (by omega)
        have i5 : Int.tdiv (lo + hi) 2 = Q := HQ.out
        have i6 : IntKind.i64.wrap Q = Q := IntWalk.i64_in _ (by omega)
        have i7 : IntKind.i64.wrap (2 * Q) = 2 * Q := IntWalk.i64_in _ (by omega)
        have i8 : IntKind.i64.wrap ((2 * Q) + 1) = (2 * Q) + 1 := IntWalk.i64_in _ (by omega)
        go_wp2_with fail
        refine (l12Wide_c ((2 * Q) + 1) _ (by omega) (by omega)).mono ?_
        rintro e wv10 ⟨aq9, cq9, kq9, Lq9, rfl, hkq9, hlq9, hpq9, hvq9, hrq9, hb11⟩
        clear i3 i4 i5 i6 i7 i8
        have HB12 : Hid (Below w.heap.size w wv10) := Lib.hid (HB2.out.trans (hb11.mono HB2.out.size))
        clear hb11
        have HLq9 := Lib.hid hlq9
        have HPq9 := Lib.hid hpq9
        have HVq9 := Lib.hid hvq9
        have HRq9 := Lib.hid hrq9
        clear hlq9 hpq9 hvq9 hrq9
        go_wp2_with fail
        refine (l12Times_c U a2 n2 c2 Lq9 aq9 kq9 cq9 _ (by omega) (by omega) HLB.out HLq9.out HPB.out HPq9.out (HRB.out.below HB12.out) (HRq9.out)).mono ?_
        rintro e wv14 ⟨aq13, cq13, kq13, Lq13, rfl, hkq13, hlq13, hpq13, hvq13, hrq13, hb15⟩
        have HB16 : Hid (Below w.heap.size w wv14) := Lib.hid (HB12.out.trans (hb15.mono HB12.out.size))
        have HR17 := Lib.hid (HRq9.out.below hb15)
        clear hb15
        have HLq13 := Lib.hid hlq13
        have HPq13 := Lib.hid hpq13
        have HVq13 : Hid (valW Lq13 = (valW U) * ((2 * Q) + 1)) := Lib.hid (by rw [hvq13, HVq9.out])
        have HRq13 := Lib.hid hrq13
        clear hlq13 hpq13 hvq13 hrq13
        go_wp2_with fail
        refine (l12Compare_c T a1 n1 c1 Lq13 aq13 kq13 cq13 _ (by omega) (by omega) HLA.out HLq13.out HPA.out HPq13.out (HRA.out.below HB16.out) (HRq13.out)).mono ?_
        rintro e wv18 ⟨rfl, hb19⟩
        have HB20 : Hid (Below w.heap.size w wv18) := Lib.hid (HB16.out.trans (hb19.mono HB16.out.size))
        have HR21 := Lib.hid (HR17.out.below hb19)
        have HR22 := Lib.hid (HRq13.out.below hb19)
        clear hb19
        obtain ⟨od, hod⟩ : ∃ z, sgnI (valW T) (valW Lq13) = z := ⟨_, rfl⟩
        rw [hod]
        have HOD : Hid (sgnI (valW T) ((valW U) * ((2 * Q) + 1)) = od) := Lib.hid (by rw [← HVq13.out]; exact hod)
        clear hod
        by_cases hc23 : od < 0
        · have d24 : decide (od < 0) = true := decide_eq_true hc23
          go_wp2_with fail
          have HSn : Hid (CountS (valW T) (valW U) false lo Q) := Lib.hid ⟨hl0, hq0, by omega, .inr (goodW_yes rfl HOD.out (by first | exact .inl (by omega) | exact .inr ⟨rfl, by omega⟩)), HSk.out.lo⟩
          go_roundw
          case rel => exact ⟨lo, Q, rfl, rfl, HSn, HB20⟩
          case measure => simp [intOf]; omega
        · have d25 : decide (od < 0) = false := decide_eq_false hc23
          by_cases hc26 : od = 0
          · have d27 : (od == 0) = true := beq_iff_eq.2 hc26
            go_wp2_with fail
            have HSn : Hid (CountS (valW T) (valW U) false lo Q) := Lib.hid ⟨hl0, hq0, by omega, .inr (goodW_yes rfl HOD.out (by first | exact .inl (by omega) | exact .inr ⟨rfl, by omega⟩)), HSk.out.lo⟩
            go_roundw
            case rel => exact ⟨lo, Q, rfl, rfl, HSn, HB20⟩
            case measure => simp [intOf]; omega
          · have d28 : (od == 0) = false := beq_eq_false_iff_ne.2 hc26
            go_wp2_with fail
            have HSn : Hid (CountS (valW T) (valW U) false Q hi) := Lib.hid ⟨by omega, hq1, hh0, HSk.out.hi, .inr (goodW_no rfl HOD.out (by omega) (by first | exact .inr (by omega) | exact .inl rfl))⟩
            go_roundw
            case rel => exact ⟨Q, hi, rfl, rfl, HSn, HB20⟩
            case measure => simp [intOf]; omega
      · have i29 : IntKind.i64.wrap (hi - lo) = hi - lo := IntWalk.i64_in _ (by omega)
        go_wp2_with fail
        go_ret
        exact ⟨hi, rfl, HSk.out.done (by omega), HB2.out⟩
  | true =>
    have HLA := Lib.hid hla
    have HLB := Lib.hid hlb
    have HRA := Lib.hid hra
    have HRB := Lib.hid hrb
    have HPA := Lib.hid hpa
    have HPB := Lib.hid hpb
    clear hla hlb hra hrb hpa hpb
    go_enter Try.func147, Try.ntmps147
    go_wp2_with fail
    go_loopw [7, 8] (fun vl vh wr => ∃ (lo hi : Int), vl = .int .i64 lo ∧ vh = .int .i64 hi ∧ Hid (CountS (valW T) (valW U) true lo hi) ∧ Hid (Below w.heap.size w wr)) (fun vl vh _ => (intOf vh - intOf vl).toNat)
    case atStart => exact ⟨-1, 50000, rfl, rfl, Lib.hid ⟨by omega, by omega, by omega, .inl rfl, .inl rfl⟩, Lib.hid (Below.refl _ _)⟩
    case round =>
      obtain ⟨lo, hi, rfl, rfl, HSk, HBk⟩ := hrel
      obtain ⟨wr1, hwr⟩ : ∃ wx, wx = wr := ⟨_, rfl⟩
      subst hwr
      have HB2 := HBk
      clear HBk
      have hl0 := HSk.out.l0
      have hlh := HSk.out.lh
      have hh0 := HSk.out.h0
      by_cases hlt : 1 < hi - lo
      · have hl0 := HSk.out.l0
        have hh0 := HSk.out.h0
        obtain ⟨Q, hQ⟩ : ∃ z, (lo + hi) / 2 = z := ⟨_, rfl⟩
        have HQ : Hid (Int.tdiv (lo + hi) 2 = Q) := Lib.hid (by rw [Int.tdiv_eq_ediv_of_nonneg (by omega)]; exact hQ)
        have hq0 : lo < Q := by omega
        have hq1 : Q < hi := by omega
        clear hQ
        have i3 : IntKind.i64.wrap (hi - lo) = hi - lo := IntWalk.i64_in _ (by omega)
        have i4 : IntKind.i64.wrap (lo + hi) = lo + hi := IntWalk.i64_in _ (by omega)
        have i5 : Int.tdiv (lo + hi) 2 = Q := HQ.out
        have i6 : IntKind.i64.wrap Q = Q := IntWalk.i64_in _ (by omega)
        have i7 : IntKind.i64.wrap (2 * Q) = 2 * Q := IntWalk.i64_in _ (by omega)
        have i8 : IntKind.i64.wrap ((2 * Q) + 1) = (2 * Q) + 1 := IntWalk.i64_in _ (by omega)
        go_wp2_with fail
        refine (l12Wide_c ((2 * Q) + 1) _ (by omega) (by omega)).mono ?_
        rintro e wv10 ⟨aq9, cq9, kq9, Lq9, rfl, hkq9, hlq9, hpq9, hvq9, hrq9, hb11⟩
        clear i3 i4 i5 i6 i7 i8
        have HB12 : Hid (Below w.heap.size w wv10) := Lib.hid (HB2.out.trans (hb11.mono HB2.out.size))
        clear hb11
        have HLq9 := Lib.hid hlq9
        have HPq9 := Lib.hid hpq9
        have HVq9 := Lib.hid hvq9
        have HRq9 := Lib.hid hrq9
        clear hlq9 hpq9 hvq9 hrq9
        go_wp2_with fail
        refine (l12Times_c U a2 n2 c2 Lq9 aq9 kq9 cq9 _ (by omega) (by omega) HLB.out HLq9.out HPB.out HPq9.out (HRB.out.below HB12.out) (HRq9.out)).mono ?_
        rintro e wv14 ⟨aq13, cq13, kq13, Lq13, rfl, hkq13, hlq13, hpq13, hvq13, hrq13, hb15⟩
        have HB16 : Hid (Below w.heap.size w wv14) := Lib.hid (HB12.out.trans (hb15.mono HB12.out.size))
        have HR17 := Lib.hid (HRq9.out.below hb15)
        clear hb15
        have HLq13 := Lib.hid hlq13
        have HPq13 := Lib.hid hpq13
        have HVq13 : Hid (valW Lq13 = (valW U) * ((2 * Q) + 1)) := Lib.hid (by rw [hvq13, HVq9.out])
        have HRq13 := Lib.hid hrq13
        clear hlq13 hpq13 hvq13 hrq13
        go_wp2_with fail
        refine (l12Compare_c T a1 n1 c1 Lq13 aq13 kq13 cq13 _ (by omega) (by omega) HLA.out HLq13.out HPA.out HPq13.out (HRA.out.below HB16.out) (HRq13.out)).mono ?_
        rintro e wv18 ⟨rfl, hb19⟩
        have HB20 : Hid (Below w.heap.size w wv18) := Lib.hid (HB16.out.trans (hb19.mono HB16.out.size))
        have HR21 := Lib.hid (HR17.out.below hb19)
        have HR22 := Lib.hid (HRq13.out.below hb19)
        clear hb19
        obtain ⟨od, hod⟩ : ∃ z, sgnI (valW T) (valW Lq13) = z := ⟨_, rfl⟩
        rw [hod]
        have HOD : Hid (sgnI (valW T) ((valW U) * ((2 * Q) + 1)) = od) := Lib.hid (by rw [← HVq13.out]; exact hod)
        clear hod
        by_cases hc23 : od < 0
        · have d24 : decide (od < 0) = true := decide_eq_true hc23
          go_wp2_with fail
          have HSn : Hid (CountS (valW T) (valW U) true lo Q) := Lib.hid ⟨hl0, hq0, by omega, .inr (goodW_yes rfl HOD.out (by first | exact .inl (by omega) | exact .inr ⟨rfl, by omega⟩)), HSk.out.lo⟩
          go_roundw
          case rel => exact ⟨lo, Q, rfl, rfl, HSn, HB20⟩
          case measure => simp [intOf]; omega
        · have d25 : decide (od < 0) = false := decide_eq_false hc23
          by_cases hc26 : od = 0
          · have d27 : (od == 0) = true := beq_iff_eq.2 hc26
            go_wp2_with fail
            have HSn : Hid (CountS (valW T) (valW U) true Q hi) := Lib.hid ⟨by omega, hq1, hh0, HSk.out.hi, .inr (goodW_no rfl HOD.out (by omega) (by first | exact .inr (by omega) | exact .inl rfl))⟩
            go_roundw
            case rel => exact ⟨Q, hi, rfl, rfl, HSn, HB20⟩
            case measure => simp [intOf]; omega
          · have d28 : (od == 0) = false := beq_eq_false_iff_ne.2 hc26
            go_wp2_with fail
            have HSn : Hid (CountS (valW T) (valW U) true Q hi) := Lib.hid ⟨by omega, hq1, hh0, HSk.out.hi, .inr (goodW_no rfl HOD.out (by omega) (by first | exact .inr (by omega) | exact .inl rfl))⟩
            go_roundw
            case rel => exact ⟨Q, hi, rfl, rfl, HSn, HB20⟩
            case measure => simp [intOf]; omega
      · have i29 : IntKind.i64.wrap (hi - lo) = hi - lo := IntWalk.i64_in _ (by omega)
        go_wp2_with fail
        go_ret
        exact ⟨hi, rfl, HSk.out.done (by omega), HB2.out⟩

end Go.Proofs.Ytloggipjmaiegaa
