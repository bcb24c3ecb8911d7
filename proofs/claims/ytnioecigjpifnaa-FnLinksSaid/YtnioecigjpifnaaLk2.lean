/-
  The sets of linked stars and their numbers: the program.
-/
import Derived.Test.YtnioecigjpifnaaLkP
import Derived.Test.YtnioecigjpifnaaTwo
import Derived.Test.YtnioecigjpifnaaBx
import Derived.Test.YtnioecigjpifnaaErr0
import Derived.Deep.DeepCutAuto
import Derived.Deep.CutRange
namespace Go.Proofs.Ytnioecigjpifnaa
open Go.RowKit
set_option maxRecDepth 100000
set_option linter.unusedVariables false
set_option linter.unusedSimpArgs false
def relFk (F : List Int) (g k : Int) (j : Nat) : List Int := relF (F.take j) g k ++ F.drop j
def relNk (F N : List Int) (g s : Int) (j : Nat) : List Int := relN (F.take j) (N.take j) g s ++ N.drop j
theorem relFk_zero (F : List Int) (g k : Int) : relFk F g k 0 = F := by simp [relFk, relF]
theorem relNk_zero (F N : List Int) (g s : Int) : relNk F N g s 0 = N := by simp [relNk, relN]
theorem relFk_all {F : List Int} {g k : Int} {n : Nat} (h : F.length = n) : relFk F g k n = relF F g k := by
  unfold relFk; rw [List.take_of_length_le (by omega), List.drop_eq_nil_of_le (by omega), List.append_nil]
theorem relNk_all {F N : List Int} {g s : Int} {n : Nat} (h : F.length = n) (h2 : N.length = n) : relNk F N g s n = relN F N g s := by
  unfold relNk; rw [List.take_of_length_le (by omega), List.take_of_length_le (by omega), List.drop_eq_nil_of_le (by omega), List.append_nil]
theorem relFk_len {F : List Int} {g k : Int} {j : Nat} (hj : j ≤ F.length) : (relF (F.take j) g k).length = j := by rw [relF_len, List.length_take]; omega
theorem relNk_len {F N : List Int} {g s : Int} {j : Nat} (hj : j ≤ F.length) (h : F.length = N.length) : (relN (F.take j) (N.take j) g s).length = j := by rw [relN_len (by rw [List.length_take, List.length_take, h]), List.length_take]; omega
theorem relFk_at {F : List Int} {g k : Int} {j : Nat} (hj : j < F.length) : (relFk F g k j)[j]? = F[j]? := by
  unfold relFk
  rw [List.getElem?_append_right (by rw [relFk_len (by omega)]; omega), relFk_len (by omega), Nat.sub_self, List.getElem?_drop]
  rfl
theorem relNk_at {F N : List Int} {g s : Int} {j : Nat} (hj : j < F.length) (h : F.length = N.length) : (relNk F N g s j)[j]? = N[j]? := by
  unfold relNk
  rw [List.getElem?_append_right (by rw [relNk_len (by omega) h]; omega), relNk_len (by omega) h, Nat.sub_self, List.getElem?_drop]
  rfl
theorem take_sn {α : Type} {L : List α} {j : Nat} {x : α} (h : L[j]? = some x) : L.take (j + 1) = L.take j ++ [x] := by rw [List.take_add_one, h]; rfl
theorem drop_sn {α : Type} {L : List α} {j : Nat} {x : α} (h : L[j]? = some x) : L.drop j = x :: L.drop (j + 1) := by
  have h1 := List.getElem?_eq_some_iff.1 h
  rw [List.drop_eq_getElem_cons h1.1, h1.2]
theorem set_mid {α : Type} {A B : List α} {x y : α} {j : Nat} (h : A.length = j) : (A ++ x :: B).set j y = (A ++ [y]) ++ B := by
  subst h
  rw [List.set_append_right _ _ (Nat.le_refl _), Nat.sub_self, List.set_cons_zero, List.append_assoc]; rfl
theorem relF_app (A : List Int) (x g k : Int) : relF (A ++ [x]) g k = relF A g k ++ [if x = g then k else x] := by simp [relF]
theorem relN_app {A M : List Int} (h : A.length = M.length) (x y g s : Int) : relN (A ++ [x]) (M ++ [y]) g s = relN A M g s ++ [if x = g then y + s else y] := by
  unfold relN; rw [List.zipWith_append h]; rfl
theorem relFk_yes {F : List Int} {g k : Int} {j : Nat} (h : F[j]? = some g) : (relFk F g k j).set j k = relFk F g k (j + 1) := by
  have hj := (List.getElem?_eq_some_iff.1 h).1
  unfold relFk
  rw [drop_sn h, set_mid (relFk_len (by omega)), take_sn h, relF_app, if_pos rfl]
theorem relFk_no {F : List Int} {g k x : Int} {j : Nat} (h : F[j]? = some x) (hx : ¬ x = g) : relFk F g k (j + 1) = relFk F g k j := by
  unfold relFk
  rw [take_sn h, relF_app, if_neg hx, drop_sn h, List.append_assoc]; rfl
theorem relNk_yes {F N : List Int} {g s y : Int} {j : Nat} (hl : F.length = N.length) (h : F[j]? = some g) (hy : N[j]? = some y) : (relNk F N g s j).set j (y + s) = relNk F N g s (j + 1) := by
  have hj := (List.getElem?_eq_some_iff.1 h).1
  unfold relNk
  rw [drop_sn hy, set_mid (relNk_len (by omega) hl), take_sn h, take_sn hy, relN_app (by rw [List.length_take, List.length_take, hl]), if_pos rfl]
theorem relNk_no {F N : List Int} {g s x y : Int} {j : Nat} (hl : F.length = N.length) (h : F[j]? = some x) (hx : ¬ x = g) (hy : N[j]? = some y) : relNk F N g s (j + 1) = relNk F N g s j := by
  unfold relNk
  rw [take_sn h, take_sn hy, relN_app (by rw [List.length_take, List.length_take, hl]), if_neg hx, drop_sn hy, List.append_assoc]; rfl
theorem lkStep_eq {S : LkS} {l : Lnk} {fa fb na nb : Int} (h1 : S.F[l.a.toNat]? = some fa) (h2 : S.F[l.b.toNat]? = some fb) (h3 : S.N[l.a.toNat]? = some na) (h4 : S.N[l.b.toNat]? = some nb) :
    lkStep S l = if fa = fb then ⟨S.F, S.N, S.ok && decide (na + l.diff - nb = 0)⟩ else if fb < fa then ⟨relF S.F fa fb, relN S.F S.N fa (-(na + l.diff - nb)), S.ok⟩ else ⟨relF S.F fb fa, relN S.F S.N fb (na + l.diff - nb), S.ok⟩ := by
  have e1 : lkF S l.a = fa := by simp [lkF, List.getD, h1]
  have e2 : lkF S l.b = fb := by simp [lkF, List.getD, h2]
  have e3 : lkN S l.a = na := by simp [lkN, List.getD, h3]
  have e4 : lkN S l.b = nb := by simp [lkN, List.getD, h4]
  unfold lkStep; rw [e1, e2, e3, e4]
/-- the numbers of a state are small -/
theorem LkI.sm {n : Nat} {ls : List Lnk} {S : LkS} (h : LkI n ls S) (hm : ls.length ≤ 12) {i : Nat} {y : Int} (hy : S.N[i]? = some y) : -1328600000 ≤ y ∧ y ≤ 1328600000 := by
  have hi := (List.getElem?_eq_some_iff.1 hy).1
  rw [h.ln] at hi
  have h1 := h.bd i hi
  have e : S.N.getD i 0 = y := by simp [List.getD, hy]
  have h2 := bdM_le hm
  rw [e] at h1; omega
theorem iota_take (n k : Nat) (hk : k ≤ n) : ((List.range n).map fun (i : Nat) => (i : Int)).take k = (List.range k).map fun (i : Nat) => (i : Int) := by
  rw [← List.map_take, List.take_range, Nat.min_eq_left hk]
set_option maxHeartbeats 8000000 in
theorem offsets_any (n : Nat) (ls : List Lnk) (a : Option Addr) (m c : Nat) (w : World) (h1 : 1 ≤ n) (h10 : n ≤ 10) (hm : m ≤ 12) (hl : ls.length = m) (hok : ∀ l ∈ ls, LkOk n l) (hr : Rd Lnk.enc 3 w a ls) :
    Calls Try.prog 41 #[.int .i64 (n : Int), .slice a m c] w fun e w' => ∃ g h, e = .returned (.tuple #[.slice (some ⟨g, 0, none⟩) n n, .slice (some ⟨h, 0, none⟩) n n, .bool (lkJ n ls).ok]) ∧ TwoR w.heap.size w w' g h n n n (lkJ n ls).F (lkJ n ls).N := by
  have HL := Lib.hid hl
  have HO := Lib.hid hok
  have HR := Lib.hid hr
  obtain ⟨B, hB⟩ : ∃ B, w.heap.size = B := ⟨_, rfl⟩
  obtain ⟨CS, hmk, hown⟩ := makeRow n (by omega)
  have HT := Lib.hid (TwoR.made (w := w) hown)
  have HBW := Lib.hid hB
  have hBsz : B ≤ w.heap.size := by omega
  clear hl hok hr hown
  go_enter Try.func41, Try.ntmps41
  rw [hB]
  clear hB
  go_upto_region 1 with (fail)
  go_cut [7, 8] (fun s7 s8 wx => ∃ g h, s7 = .slice (some ⟨g, 0, none⟩) n n ∧ s8 = .slice (some ⟨h, 0, none⟩) n n ∧ Hid (TwoR B w wx g h n n n (List.replicate n 0) (List.replicate n 0)))
  case first =>
    go_region
    all_goals
      go_wp2_with fail
      go_meet
      first
        | exact ⟨_, _, rfl, rfl, Lib.hid (by rw [← HBW.out]; exact HT.out.1)⟩
        | exact ⟨_, _, rfl, rfl, Lib.hid (by rw [← HBW.out]; exact HT.out.2)⟩
        | fail
  case rest =>
  obtain ⟨g, h, rfl, rfl, HT0⟩ := hcut
  clear hmk HT
  go_wp2_with fail
  go_loopw [23] (fun i wr => ∃ k : Nat, k ≤ n ∧ i = .int .i64 k ∧ Hid (TwoR B w wr g h n n n (((List.range n).map fun (i : Nat) => (i : Int)).take k ++ List.replicate (n - k) 0) (List.replicate n 0))) (fun i _ => n - (intOf i).toNat)
  case atStart => exact ⟨0, Nat.zero_le _, rfl, Lib.hid (by rw [List.take_zero, List.nil_append, Nat.sub_zero]; exact HT0.out)⟩
  case round =>
  obtain ⟨k, hk, rfl, HTk⟩ := hrel
  by_cases hlt : k < n
  · have hx0 : (((List.range n).map fun (i : Nat) => (i : Int)).take k ++ List.replicate (n - k) 0)[k]? = some 0 := by
      have e9 : (((List.range n).map fun (i : Nat) => (i : Int)).take k).length = k := by rw [List.length_take, List.length_map, List.length_range]; omega
      rw [List.getElem?_append_right (by omega), e9, Nat.sub_self, List.getElem?_replicate, if_pos (by omega)]
    have c0 : wr.cell? ⟨g, k, none⟩ = some (.int .i64 0) := HTk.out.cF hx0
    have f0 : wr.frozen? ⟨g, k, none⟩ = false := HTk.out.zF k
    have j0 : (0 : Int) ≤ (k : Nat) := by omega
    have j1 : ((k : Nat) : Int) < (n : Nat) := by omega
    have HT2 := Lib.hid (HTk.out.setF k (k : Int))
    have HFS := Lib.hid (fill_step ((List.range n).map fun (i : Nat) => (i : Int)) 0 (k : Int) n k (by simp) (by simp [hlt]) hlt)
    rw [HFS.out] at HT2
    clear hx0
    go_wp2_with fail
    go_roundw
    case rel => exact ⟨k + 1, by omega, by go_num, HT2⟩
    case measure => simp [intOf]; omega
  obtain rfl : n = k := by omega
  have HTs : Hid (TwoR B w wr g h n n n (lkJ n (ls.take 0)).F (lkJ n (ls.take 0)).N) := Lib.hid (by
    have h9 := HTk.out
    rw [Nat.sub_self, List.replicate_zero, List.append_nil, List.take_of_length_le (by simp)] at h9
    exact h9)
  clear HTk HT0
  go_wp2_with fail
  clear hlt hk
  go_loopw [10, 33] (fun f i wr => ∃ k : Nat, k ≤ m ∧ i = .int .i64 k ∧ f = .bool (lkJ n (ls.take k)).ok ∧ Hid (TwoR B w wr g h n n n (lkJ n (ls.take k)).F (lkJ n (ls.take k)).N)) (fun _ i _ => m - (intOf i).toNat)
  case atStart => exact ⟨0, Nat.zero_le _, rfl, rfl, HTs⟩
  case round =>
  obtain ⟨k, hk, rfl, rfl, HTk⟩ := hrel
  obtain ⟨wA, hwA⟩ : ∃ wx, wx = wr := ⟨_, rfl⟩
  subst hwA
  clear HTs
  by_cases hlt : k < m
  case neg =>
    obtain rfl : m = k := by omega
    have HE : Hid (ls.take m = ls) := Lib.hid (List.take_of_length_le (by rw [HL.out]; omega))
    rw [HE.out] at HTk ⊢
    go_wp2_with fail
    go_ret3
    exact ⟨g, h, rfl, HTk.out⟩
  obtain ⟨l, hlx⟩ : ∃ z, ls[k]? = some z := ⟨_, List.getElem?_eq_getElem (by rw [HL.out]; exact hlt)⟩
  have hlok := HO.out l (List.mem_of_getElem? hlx)
  have HLI := Lib.hid (lkJ_ok (n := n) (ls.take k) fun y hy => HO.out y (List.mem_of_mem_take hy))
  have HST0 : Hid (lkJ n (ls.take (k + 1)) = lkStep (lkJ n (ls.take k)) l) := Lib.hid (by rw [take_sn hlx]; exact lkJ_snoc _ _ _)
  have HM12 : Hid ((ls.take k).length ≤ 12) := Lib.hid (by rw [List.length_take]; omega)
  obtain ⟨b, ofs, hab, hC⟩ := (HR.out.below (by have h9 := HTk.out.b; rw [← HBW.out] at h9; exact h9)).addr (by rw [HL.out]; omega)
  subst hab
  have x0 := hC k l hlx _ (Below.refl _ _) 0 _ rfl
  rw [Nat.add_zero] at x0
  have x1 := hC k l hlx _ (Below.refl _ _) 1 _ rfl
  have x2 := hC k l hlx _ (Below.refl _ _) 2 _ rfl
  obtain ⟨S, hS⟩ : ∃ z, lkJ n (ls.take k) = z := ⟨_, rfl⟩
  rw [hS] at HTk HLI HST0 ⊢
  obtain ⟨q0, q1, q2, q3, q4⟩ := hlok
  obtain ⟨fa, hfa⟩ : ∃ z, S.F[l.a.toNat]? = some z := ⟨_, List.getElem?_eq_getElem (by rw [HLI.out.lf]; omega)⟩
  obtain ⟨fb, hfb⟩ : ∃ z, S.F[l.b.toNat]? = some z := ⟨_, List.getElem?_eq_getElem (by rw [HLI.out.lf]; omega)⟩
  obtain ⟨na, hna⟩ : ∃ z, S.N[l.a.toNat]? = some z := ⟨_, List.getElem?_eq_getElem (by rw [HLI.out.ln]; omega)⟩
  obtain ⟨nb, hnb⟩ : ∃ z, S.N[l.b.toNat]? = some z := ⟨_, List.getElem?_eq_getElem (by rw [HLI.out.ln]; omega)⟩
  have HSE : Hid (lkJ n (ls.take (k + 1)) = _) := Lib.hid (HST0.out.trans (lkStep_eq hfa hfb hna hnb))
  have hba := HLI.out.sm HM12.out hna
  have hbb := HLI.out.sm HM12.out hnb
  have hbx : Below wA.heap.size wA (wA.alloc (.cells #[.int .i64 l.a, .int .i64 l.b, .int .i64 l.diff] 50)) := (Below.refl _ _).alloc (Nat.le_refl _) _
  have hTB := HTk.out.below hbx (Nat.le_trans hBsz HTk.out.b.size)
  have hCX := CAt.new wA #[.int .i64 l.a, .int .i64 l.b, .int .i64 l.diff] 50
  obtain ⟨wB, hwB⟩ : ∃ wx, wA.alloc (.cells #[.int .i64 l.a, .int .i64 l.b, .int .i64 l.diff] 50) = wx := ⟨_, rfl⟩
  obtain ⟨gl, hgl⟩ : ∃ gx, wA.heap.size = gx := ⟨_, rfl⟩
  rw [hwB] at hTB hCX
  rw [hgl] at hCX
  have HWB := Lib.hid hwB
  have HGL := Lib.hid hgl
  have HTB := Lib.hid hTB
  have HCX := Lib.hid hCX
  have HFA := Lib.hid hfa
  have HFB := Lib.hid hfb
  have HNA := Lib.hid hna
  have HNB := Lib.hid hnb
  clear hTB hCX hwB hgl hbx hC hlx hfa hfb hna hnb HST0 hS
  go_upto_region 11 with (fail)
  rw [HWB.out, HGL.out]
  clear HWB HGL x0 x1 x2
  have y0 : wB.cell? ⟨gl, 0, none⟩ = some (.int .i64 l.a) := HCX.out.cell 0
  have y1 : wB.cell? ⟨gl, 1, none⟩ = some (.int .i64 l.b) := HCX.out.cell 1
  have y2 : wB.cell? ⟨gl, 2, none⟩ = some (.int .i64 l.diff) := HCX.out.cell 2
  have y3 : wB.cell? ⟨h, l.a.toNat, none⟩ = some (.int .i64 na) := HTB.out.cN HNA.out
  have y4 : wB.cell? ⟨h, l.b.toNat, none⟩ = some (.int .i64 nb) := HTB.out.cN HNB.out
  have a1 : l.a < (n : Int) := by omega
  have b0 : (0 : Int) ≤ l.b := by omega
  have i1 : IntKind.i64.wrap (na + l.diff) = na + l.diff := IntWalk.i64_in _ (by omega)
  have i2 : IntKind.i64.wrap (na + l.diff - nb) = na + l.diff - nb := IntWalk.i64_in _ (by omega)
  go_wp2_with fail
  go_quiet (fail)
  have hbq := below_drewN (Below.refl wB.heap.size wB) nq
  have hTC := HTB.out.below hbq (Nat.le_trans hBsz HTB.out.b.size)
  have hCC := HCX.out.below hbq
  obtain ⟨wC, hwC⟩ : ∃ wx, wB.drewN nq = wx := ⟨_, rfl⟩
  rw [hwC] at hTC hCC ⊢
  have HTC := Lib.hid hTC
  have HCC := Lib.hid hCC
  clear hTC hCC hwC hbq y0 y1 y2 y3 y4
  obtain ⟨sh, hsh⟩ : ∃ z, na + l.diff - nb = z := ⟨_, rfl⟩
  rw [hsh] at HSE ⊢
  have hshb : -5000000000 ≤ sh ∧ sh ≤ 5000000000 := by omega
  clear hsh i1 i2
  go_upto_region 12 with (fail)
  have y0 : wC.cell? ⟨gl, 0, none⟩ = some (.int .i64 l.a) := HCC.out.cell 0
  have y1 : wC.cell? ⟨gl, 1, none⟩ = some (.int .i64 l.b) := HCC.out.cell 1
  have y3 : wC.cell? ⟨g, l.a.toNat, none⟩ = some (.int .i64 fa) := HTC.out.cF HFA.out
  have y4 : wC.cell? ⟨g, l.b.toNat, none⟩ = some (.int .i64 fb) := HTC.out.cF HFB.out
  go_wp2_with fail
  go_quiet (fail)
  have hbq := below_drewN (Below.refl wC.heap.size wC) nq
  have hTC := HTC.out.below hbq (Nat.le_trans hBsz HTC.out.b.size)
  obtain ⟨wq, hwC⟩ : ∃ wx, wC.drewN nq = wx := ⟨_, rfl⟩
  rw [hwC] at hTC ⊢
  have HTq := Lib.hid hTC
  clear hTC hwC hbq y0 y1 y3 y4 HTC HCC HTB HCX HTk
  by_cases hfe : fa = fb
  · have dfe : (fa == fb) = true := beq_iff_eq.2 hfe
    have HSF : Hid (lkJ n (ls.take (k + 1)) = ⟨S.F, S.N, S.ok && decide (sh = 0)⟩) := Lib.hid (by rw [HSE.out, if_pos hfe])
    clear hfe HSE
    cases hSo : S.ok with
    | true =>
      have HSO := Lib.hid hSo
      clear hSo
      go_wp2_with fail
      go_roundw
      case rel => exact ⟨k + 1, by omega, by go_num, by rw [HSF.out, HSO.out, Bool.true_and]; rfl, Lib.hid (by rw [HSF.out]; exact HTq.out)⟩
      case measure => simp [intOf]; omega
    | false =>
      have HSO := Lib.hid hSo
      clear hSo
      go_wp2_with fail
      go_roundw
      case rel => exact ⟨k + 1, by omega, by go_num, by rw [HSF.out, HSO.out, Bool.false_and], Lib.hid (by rw [HSF.out]; exact HTq.out)⟩
      case measure => simp [intOf]; omega
  · have dfe : (fa == fb) = false := beq_eq_false_iff_ne.2 hfe
    by_cases hlt2 : fb < fa
    · have dlt : decide (fb < fa) = true := decide_eq_true hlt2
      have ish : IntKind.i64.wrap (-sh) = -sh := IntWalk.i64_in _ (by omega)
      have HST : Hid (lkJ n (ls.take (k + 1)) = ⟨relF S.F fa fb, relN S.F S.N fa (-sh), S.ok⟩) := Lib.hid (by rw [HSE.out, if_neg hfe, if_pos hlt2])
      clear hfe hlt2 HSE
      obtain ⟨so, hso⟩ : ∃ z, S.ok = z := ⟨_, rfl⟩
      rw [hso] at HST ⊢
      clear hso
      go_wp2_with fail
      go_loopw [78] (fun i wr => ∃ j : Nat, j ≤ n ∧ i = .int .i64 j ∧ Hid (TwoR B w wr g h n n n (relFk S.F fa fb j) (relNk S.F S.N fa (-sh) j))) (fun i _ => n - (intOf i).toNat)
      case atStart => exact ⟨0, Nat.zero_le _, rfl, Lib.hid (by rw [relFk_zero, relNk_zero]; exact HTq.out)⟩
      case round =>
        obtain ⟨j, hj, rfl, HTj⟩ := hrel
        obtain ⟨wj, hwj⟩ : ∃ wx, wx = wr := ⟨_, rfl⟩
        subst hwj
        by_cases hjn : j < n
        · obtain ⟨x, hx⟩ : ∃ z, S.F[j]? = some z := ⟨_, List.getElem?_eq_getElem (by rw [HLI.out.lf]; exact hjn)⟩
          obtain ⟨y, hy⟩ : ∃ z, S.N[j]? = some z := ⟨_, List.getElem?_eq_getElem (by rw [HLI.out.ln]; exact hjn)⟩
          have HX := Lib.hid hx
          have HY := Lib.hid hy
          have HLL : Hid (S.F.length = S.N.length) := Lib.hid (by rw [HLI.out.lf, HLI.out.ln])
          have hby := HLI.out.sm HM12.out hy
          have c0 : wj.cell? ⟨g, j, none⟩ = some (.int .i64 x) := HTj.out.cF (by rw [relFk_at (by rw [HLI.out.lf]; exact hjn)]; exact HX.out)
          have c1 : wj.cell? ⟨h, j, none⟩ = some (.int .i64 y) := HTj.out.cN (by rw [relNk_at (by rw [HLI.out.lf]; exact hjn) HLL.out]; exact HY.out)
          have f0 : wj.frozen? ⟨g, j, none⟩ = false := HTj.out.zF j
          have f1 : (wj.setCell ⟨g, j, none⟩ (.int .i64 fb)).frozen? ⟨h, j, none⟩ = false := (HTj.out.setF j fb).zN j
          have c2 : (wj.setCell ⟨g, j, none⟩ (.int .i64 fb)).cell? ⟨h, j, none⟩ = some (.int .i64 y) := (HTj.out.setF j fb).cN (by rw [relNk_at (by rw [HLI.out.lf]; exact hjn) HLL.out]; exact HY.out)
          have j0 : (0 : Int) ≤ (j : Nat) := by omega
          have j1 : ((j : Nat) : Int) < (n : Nat) := by omega
          have iy : IntKind.i64.wrap (y + (-sh)) = y + (-sh) := IntWalk.i64_in _ (by omega)
          clear hx hy
          by_cases hxg : x = fa
          · have dx : (x == fa) = true := beq_iff_eq.2 hxg
            have HF2 : Hid ((relFk S.F fa fb j).set j fb = relFk S.F fa fb (j + 1)) := Lib.hid (relFk_yes (by rw [HX.out, hxg]))
            have HN2 : Hid ((relNk S.F S.N fa (-sh) j).set j (y + (-sh)) = relNk S.F S.N fa (-sh) (j + 1)) := Lib.hid (relNk_yes HLL.out (by rw [HX.out, hxg]) HY.out)
            have HT2 := Lib.hid ((HTj.out.setF j fb).setN j (y + (-sh)))
            rw [HF2.out, HN2.out] at HT2
            clear hxg
            go_wp2_with fail
            go_roundw
            case rel => exact ⟨j + 1, by omega, by go_num, HT2⟩
            case measure => simp [intOf]; omega
          · have dx : (x == fa) = false := beq_eq_false_iff_ne.2 hxg
            have HF2 := Lib.hid (relFk_no (k := fb) HX.out hxg)
            have HN2 := Lib.hid (relNk_no (s := (-sh)) HLL.out HX.out hxg HY.out)
            clear hxg
            go_wp2_with fail
            go_roundw
            case rel => exact ⟨j + 1, by omega, by go_num, Lib.hid (by rw [HF2.out, HN2.out]; exact HTj.out)⟩
            case measure => simp [intOf]; omega
        · obtain rfl : n = j := by omega
          have HT2 := HTj.out
          rw [relFk_all HLI.out.lf, relNk_all HLI.out.lf HLI.out.ln] at HT2
          have HT3 := Lib.hid HT2
          clear HT2
          skip
          go_wp2_with fail
          go_roundw
          case rel => exact ⟨k + 1, by omega, by go_num, by rw [HST.out], Lib.hid (by rw [HST.out]; exact HT3.out)⟩
          case measure => simp [intOf]; omega
    · have dlt : decide (fb < fa) = false := decide_eq_false hlt2
      have HST : Hid (lkJ n (ls.take (k + 1)) = ⟨relF S.F fb fa, relN S.F S.N fb sh, S.ok⟩) := Lib.hid (by rw [HSE.out, if_neg hfe, if_neg hlt2])
      clear hfe hlt2 HSE
      obtain ⟨so, hso⟩ : ∃ z, S.ok = z := ⟨_, rfl⟩
      rw [hso] at HST ⊢
      clear hso
      go_wp2_with fail
      go_loopw [78] (fun i wr => ∃ j : Nat, j ≤ n ∧ i = .int .i64 j ∧ Hid (TwoR B w wr g h n n n (relFk S.F fb fa j) (relNk S.F S.N fb sh j))) (fun i _ => n - (intOf i).toNat)
      case atStart => exact ⟨0, Nat.zero_le _, rfl, Lib.hid (by rw [relFk_zero, relNk_zero]; exact HTq.out)⟩
      case round =>
        obtain ⟨j, hj, rfl, HTj⟩ := hrel
        obtain ⟨wj, hwj⟩ : ∃ wx, wx = wr := ⟨_, rfl⟩
        subst hwj
        by_cases hjn : j < n
        · obtain ⟨x, hx⟩ : ∃ z, S.F[j]? = some z := ⟨_, List.getElem?_eq_getElem (by rw [HLI.out.lf]; exact hjn)⟩
          obtain ⟨y, hy⟩ : ∃ z, S.N[j]? = some z := ⟨_, List.getElem?_eq_getElem (by rw [HLI.out.ln]; exact hjn)⟩
          have HX := Lib.hid hx
          have HY := Lib.hid hy
          have HLL : Hid (S.F.length = S.N.length) := Lib.hid (by rw [HLI.out.lf, HLI.out.ln])
          have hby := HLI.out.sm HM12.out hy
          have c0 : wj.cell? ⟨g, j, none⟩ = some (.int .i64 x) := HTj.out.cF (by rw [relFk_at (by rw [HLI.out.lf]; exact hjn)]; exact HX.out)
          have c1 : wj.cell? ⟨h, j, none⟩ = some (.int .i64 y) := HTj.out.cN (by rw [relNk_at (by rw [HLI.out.lf]; exact hjn) HLL.out]; exact HY.out)
          have f0 : wj.frozen? ⟨g, j, none⟩ = false := HTj.out.zF j
          have f1 : (wj.setCell ⟨g, j, none⟩ (.int .i64 fa)).frozen? ⟨h, j, none⟩ = false := (HTj.out.setF j fa).zN j
          have c2 : (wj.setCell ⟨g, j, none⟩ (.int .i64 fa)).cell? ⟨h, j, none⟩ = some (.int .i64 y) := (HTj.out.setF j fa).cN (by rw [relNk_at (by rw [HLI.out.lf]; exact hjn) HLL.out]; exact HY.out)
          have j0 : (0 : Int) ≤ (j : Nat) := by omega
          have j1 : ((j : Nat) : Int) < (n : Nat) := by omega
          have iy : IntKind.i64.wrap (y + sh) = y + sh := IntWalk.i64_in _ (by omega)
          clear hx hy
          by_cases hxg : x = fb
          · have dx : (x == fb) = true := beq_iff_eq.2 hxg
            have HF2 : Hid ((relFk S.F fb fa j).set j fa = relFk S.F fb fa (j + 1)) := Lib.hid (relFk_yes (by rw [HX.out, hxg]))
            have HN2 : Hid ((relNk S.F S.N fb sh j).set j (y + sh) = relNk S.F S.N fb sh (j + 1)) := Lib.hid (relNk_yes HLL.out (by rw [HX.out, hxg]) HY.out)
            have HT2 := Lib.hid ((HTj.out.setF j fa).setN j (y + sh))
            rw [HF2.out, HN2.out] at HT2
            clear hxg
            go_wp2_with fail
            go_roundw
            case rel => exact ⟨j + 1, by omega, by go_num, HT2⟩
            case measure => simp [intOf]; omega
          · have dx : (x == fb) = false := beq_eq_false_iff_ne.2 hxg
            have HF2 := Lib.hid (relFk_no (k := fa) HX.out hxg)
            have HN2 := Lib.hid (relNk_no (s := sh) HLL.out HX.out hxg HY.out)
            clear hxg
            go_wp2_with fail
            go_roundw
            case rel => exact ⟨j + 1, by omega, by go_num, Lib.hid (by rw [HF2.out, HN2.out]; exact HTj.out)⟩
            case measure => simp [intOf]; omega
        · obtain rfl : n = j := by omega
          have HT2 := HTj.out
          rw [relFk_all HLI.out.lf, relNk_all HLI.out.lf HLI.out.ln] at HT2
          have HT3 := Lib.hid HT2
          clear HT2
          skip
          go_wp2_with fail
          go_roundw
          case rel => exact ⟨k + 1, by omega, by go_num, by rw [HST.out], Lib.hid (by rw [HST.out]; exact HT3.out)⟩
          case measure => simp [intOf]; omega
end Go.Proofs.Ytnioecigjpifnaa
