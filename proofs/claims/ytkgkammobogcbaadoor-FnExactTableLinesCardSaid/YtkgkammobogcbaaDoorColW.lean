/-
  How wide the columns of a table are, in the program and in the reference.
-/
import Derived.Test.YtkgkammobogcbaaDoorTab
import Derived.Test.YtkgkammobogcbaaDoorMore
namespace Go.Proofs.YtkgkammobogcbaaDoor
open Go.RowKit
set_option maxRecDepth 100000

def maxS (x : Int) (s : ByteArray) : Int := if x < s.size then s.size else x
def widS (ws : List Int) (r : List ByteArray) : List Int := List.zipWith maxS ws r
def widK (m : Nat) (t : List (List ByteArray)) (k : Nat) : List Int := (t.take k).foldl widS (List.replicate m 0)
def widT (t : List (List ByteArray)) : List Int := widK (t.headD []).length t t.length
def cwL (t : List (List ByteArray)) : List Int := if tabC t = 0 then widT t else []
theorem widK_len {m : Nat} {t : List (List ByteArray)} (h : ∀ r ∈ t, r.length = m) : ∀ k, (widK m t k).length = m := by
  intro k
  induction k with
  | zero => simp [widK]
  | succ k ih =>
    by_cases hk : k < t.length
    · obtain ⟨x, hx, ht⟩ := take_snoc' t k hk
      have hxm := h x (List.mem_of_getElem? hx)
      unfold widK at ih ⊢
      rw [ht, List.foldl_append]
      simp only [List.foldl_cons, List.foldl_nil]
      show (List.zipWith maxS _ x).length = m
      rw [List.length_zipWith, ih, hxm]
      omega
    · unfold widK at ih ⊢
      rw [List.take_of_length_le (by omega)] at ih ⊢
      exact ih
theorem widK_step {m : Nat} {t : List (List ByteArray)} {k : Nat} {r : List ByteArray} (h : t[k]? = some r) : widK m t (k + 1) = widS (widK m t k) r := by
  obtain ⟨h1, h2⟩ := List.getElem?_eq_some_iff.1 h
  unfold widK
  rw [List.take_succ_eq_append_getElem h1, h2, List.foldl_append]
  rfl
theorem widS_get {W : List Int} {r : List ByteArray} {j : Nat} {x : Int} {s : ByteArray} (hw : W[j]? = some x) (hs : r[j]? = some s) : (widS W r)[j]? = some (maxS x s) := by
  unfold widS
  rw [List.getElem?_zipWith, hw, hs]
theorem widS_len {W : List Int} {r : List ByteArray} (h : W.length = r.length) : (widS W r).length = r.length := by
  unfold widS; rw [List.length_zipWith, h]; omega
theorem upd_step {α : Type} {A B : List α} {j : Nat} {a : α} (ha : A[j]? = some a) (hl : A.length = B.length) : (A.take j ++ B.drop j).set j a = A.take (j + 1) ++ B.drop (j + 1) := by
  obtain ⟨h1, h2⟩ := List.getElem?_eq_some_iff.1 ha
  have h3 : (A.take j).length = j := by simp; omega
  rw [List.drop_eq_getElem_cons (show j < B.length by omega), List.set_append_right _ _ (by omega), h3, Nat.sub_self, List.set_cons_zero, List.take_succ_eq_append_getElem h1, h2]
  simp
theorem upd_get {α : Type} {A B : List α} {j : Nat} {b : α} (hb : B[j]? = some b) (hl : A.length = B.length) : (A.take j ++ B.drop j)[j]? = some b := by
  obtain ⟨h1, h2⟩ := List.getElem?_eq_some_iff.1 hb
  have h3 : (A.take j).length = j := by simp; omega
  rw [List.getElem?_append_right (by omega), h3, Nat.sub_self, List.getElem?_drop, Nat.add_zero, hb]
theorem snoc_set {α : Type} {A : List α} {j : Nat} {a z : α} (ha : A[j]? = some a) : (A.take j ++ [z]).set j a = A.take (j + 1) := by
  obtain ⟨h1, h2⟩ := List.getElem?_eq_some_iff.1 ha
  have h3 : (A.take j).length = j := by simp; omega
  rw [List.set_append_right _ _ (by omega), h3, Nat.sub_self, List.set_cons_zero, List.take_succ_eq_append_getElem h1, h2]
theorem cwL_bad {t : List (List ByteArray)} (h : tabC t ≠ 0) : cwL t = [] := by unfold cwL; rw [if_neg h]
theorem cwL_ok {t : List (List ByteArray)} (h : tabC t = 0) : cwL t = widT t := by unfold cwL; rw [if_pos h]
theorem tabC_le (t : List (List ByteArray)) : 0 ≤ tabC t ∧ tabC t ≤ 7 := by unfold tabC; split <;> (try split) <;> omega

theorem maxS_max (x : Int) (s : ByteArray) : maxS x s = max x (s.size : Int) := by unfold maxS; split <;> omega
theorem still_of {P : Program} {f : FuncId} {args : Array Value} {w : World} {v : Value} (h : Calls P f args w fun e w' => e = .returned v ∧ w = w') : Calls P f args w fun e w'' => e = .returned v ∧ w'' = w :=
  h.mono fun _ _ ⟨he, hw⟩ => ⟨he, hw.symm⟩
theorem szI64 : (Tryd.prog.info? 2).map (·.size) = some 1 := by kernel_rfl
section
variable (rows : List Row) (a : Option Addr) (n c : Nat) (w : World) (hn : n ≤ 1048576) (hl : rows.length = n) (hs : RowsOk w rows) (hr : Rd Row.enc 1 w a rows)
include hn hl hs hr
set_option maxHeartbeats 4000000 in
theorem l24Widths_any (h0 : tabC (rows.map Row.xs) = 0) : Calls Tryd.prog 32 #[.slice a n c] w fun e w' => ∃ a' n' c', e = .returned (.slice a' n' c') ∧ n' ≤ 8 ∧ Ow eI 1 w' w.heap.size 2 (.slice a' n' c') n' (widT (rows.map Row.xs)) ∧ Below w.heap.size w w' := by
  have HL := Lib.hid hl
  have HS := Lib.hid hs
  clear hl hs
  obtain ⟨t, ht⟩ : ∃ t, rows.map Row.xs = t := ⟨_, rfl⟩
  have hlt : t.length = n := by rw [← ht]; simpa using HL.out
  rw [ht] at h0
  rw [ht]
  have hsh := shapeT_parts (tabC_ok h0).2
  obtain ⟨m, hm⟩ : ∃ m, (t.headD []).length = m := ⟨_, rfl⟩
  have hrow : ∀ r ∈ t, r.length = m := fun r hr' => by rw [← hm]; exact (hsh.2 r hr').1
  have hm8 : m ≤ 8 := by
    by_cases hz : n = 0
    · have : t = [] := List.eq_nil_of_length_eq_zero (by omega)
      rw [this] at hm; simp at hm; omega
    · obtain ⟨x, hx, _⟩ := take_snoc' t 0 (by omega)
      have := (hsh.2 x (List.mem_of_getElem? hx)).2.1
      rw [hrow x (List.mem_of_getElem? hx)] at this; exact this
  have hm0 : n = 0 → m = 0 := fun hz => by
    have : t = [] := List.eq_nil_of_length_eq_zero (by omega)
    rw [this] at hm; simp at hm; omega
  have HROW := Lib.hid hrow
  have HSZ : Hid (∀ r ∈ t, ∀ s ∈ r, s.size ≤ 80) := Lib.hid fun r hr' => (hsh.2 r hr').2.2
  have HW := Lib.hid (fun k => widK_len (t := t) hrow k)
  have HT := Lib.hid ht
  have HFIN : Hid (widT t = widK m t n) := Lib.hid (by rw [widT, hm, hlt])
  have HM0 := Lib.hid hm0
  have HRW := Lib.hid hr
  clear hm hrow hsh hlt h0 ht hm0 hr
  have hbb := below_built w 2
  have hbo := Ow.built eI 1 w 2
  have HBB := Lib.hid hbb
  have HBO := Lib.hid hbo
  clear hbb hbo
  go_enter Tryd.func32, Tryd.ntmps32
  go_wp2_with fail
  go_loopw [3, 4] (fun o i wr => ∃ (k : Nat) (a2 : Option Addr) (n2 c2 : Nat), k ≤ n ∧ i = .int .i64 k ∧ o = .slice a2 n2 c2 ∧ n2 = (if k = 0 then 0 else m) ∧ Ow eI 1 wr w.heap.size 2 (.slice a2 n2 c2) n2 (if k = 0 then [] else widK m t k) ∧ Below w.heap.size w wr) (fun _ i _ => n - (intOf i).toNat)
  case atStart => exact ⟨0, _, _, _, Nat.zero_le _, rfl, rfl, rfl, HBO.out, HBB.out⟩
  case round =>
    obtain ⟨k, a2, n2, c2, hk, rfl, rfl, hn2, hoK, hb⟩ := hrel
    by_cases hlt : k < n
    · obtain ⟨x, hx, htk⟩ := take_snoc' rows k (by rw [HL.out]; exact hlt)
      obtain ⟨b, o, rfl, hbl, hc⟩ := HRW.out.at1 hx rfl
      have hok := Lib.hid (HS.out x (List.mem_of_getElem? hx))
      have htx : t[k]? = some x.xs := by rw [← HT.out, List.getElem?_map, hx]; rfl
      have hxm : x.n = m := by
        have h1 := hok.out.1
        have h2 := HROW.out x.xs (List.mem_of_getElem? htx)
        omega
      have HST := Lib.hid (widK_step (m := m) htx)
      have HXS := Lib.hid (HSZ.out x.xs (List.mem_of_getElem? htx))
      have HWL := Lib.hid (HW.out k)
      obtain ⟨W, hW⟩ : ∃ W, widK m t k = W := ⟨_, rfl⟩
      rw [hW] at hoK HST HWL
      have HW0 : Hid (k = 0 → W = List.replicate m 0) := Lib.hid fun h => by rw [← hW, h]; rfl
      have hXL : Hid (x.xs.length = m) := Lib.hid (by have h1 := hok.out.1; omega)
      have HRX := Lib.hid hok.out.2.2.2
      have HCX : Hid (∀ wq, Below w.heap.size w wq → wq.cell? ⟨b, o + k, none⟩ = some (.slice x.a m x.c)) := Lib.hid fun wq hbq => (hbq.cell (p := ⟨b, _, none⟩) hbl).trans (by rw [hc, hxm])
      clear htk hx htx hW hxm hok hc
      obtain ⟨xa, xn, xc, xs⟩ := x
      simp only at HST HXS hXL HRX HCX
      have HN2 := Lib.hid hn2
      have HOK : Hid (Ow eI 1 wr w.heap.size 2 (.slice a2 n2 c2) n2 ((widS W xs).take 0 ++ (if k = 0 then [] else W.drop 0))) := Lib.hid (by simpa using hoK)
      clear hn2 hoK
      go_wp2_with fail
      go_loopw [3, 5] (fun o i wq => ∃ (j : Nat) (a2 : Option Addr) (n2 c2 : Nat), j ≤ m ∧ i = .int .i64 j ∧ o = .slice a2 n2 c2 ∧ n2 = (if k = 0 then j else m) ∧ Ow eI 1 wq w.heap.size 2 (.slice a2 n2 c2) n2 ((widS W xs).take j ++ (if k = 0 then [] else W.drop j)) ∧ Below w.heap.size w wq) (fun _ i _ => m - (intOf i).toNat)
      case atStart => exact ⟨0, _, _, _, Nat.zero_le _, rfl, rfl, HN2.out, HOK.out, hb⟩
      case round =>
        obtain ⟨j, a2, n2, c2, hj, rfl, rfl, hn2, hoJ, hbq⟩ := hrel
        clear hb
        have hcq := HCX.out _ hbq
        by_cases hlj : j < m
        · obtain ⟨s, hsx, _⟩ := take_snoc' xs j (by rw [hXL.out]; exact hlj)
          obtain ⟨z0, hzx, _⟩ := take_snoc' W j (by rw [HWL.out]; exact hlj)
          have hlen : (widS W xs).length = W.length := by rw [widS_len (by rw [HWL.out, hXL.out]), HWL.out, hXL.out]
          have hwl : (widS W xs).length = m := hlen.trans HWL.out
          have hnew := widS_get hzx hsx
          rw [maxS_max] at hnew
          have hs80 := HXS.out s (List.mem_of_getElem? hsx)
          have HSX := Lib.hid hsx
          by_cases hk0 : k = 0
          · rw [if_pos hk0] at hn2 hoJ
            obtain rfl : z0 = 0 := by
              have h2 := List.mem_of_getElem? hzx
              rw [HW0.out hk0] at h2
              exact List.eq_of_mem_replicate h2
            obtain rfl := hn2
            rw [List.append_nil] at hoJ
            have HY : Hid (((widS W xs).take n2 ++ [(0 : Int)]).set n2 (max 0 (s.size : Int)) = (widS W xs).take (n2 + 1)) := Lib.hid (snoc_set hnew)
            have HZG : Hid (((widS W xs).take n2 ++ [(0 : Int)])[n2]? = some 0) := Lib.hid (by
              have h3 : ((widS W xs).take n2).length = n2 := by simp; omega
              rw [List.getElem?_append_right (by omega), h3, Nat.sub_self]; rfl)
            have HY0 : Hid ((widS W xs).take n2 ++ [(0 : Int)] = (widS W xs).take n2 ++ [(0 : Int)]) := Lib.hid rfl
            have HN3 : Hid (n2 + 1 = (if k = 0 then n2 + 1 else m)) := Lib.hid (by rw [if_pos hk0])
            have HL3 : Hid ((widS W xs).take (n2 + 1) = (widS W xs).take (n2 + 1) ++ (if k = 0 then [] else W.drop (n2 + 1))) := Lib.hid (by rw [if_pos hk0, List.append_nil])
            have h63 : n2 + 1 ≤ maxLen := by unfold maxLen; omega
            have hby : (n2 + 1) * 8 ≤ 140737488355328 := by omega
            have hHJ := hoJ
            clear hsx hzx hlen hnew hwl hk0
            go_wp2_with (at_builtin; refine wpl_app eI_len (by decide) _ rfl (.tmp 26) (.tmp 27) 47 rfl 2 (.int .i64 0) 8 rfl Tryd.underlying47 Tryd.info2 w.heap.size _ n2 _ rfl wr _ 2 rfl hoJ (0 : Int) rfl rfl (eI_one _) h63 hby hbq.size _ HY0 ?_)
            intro a4 c4 w6 hoI6 hb8 _
            have hb6 := hbq.trans hb8
            obtain ⟨g, rfl, hg, _⟩ := hoI6.at_ (by omega)
            obtain ⟨g', o2, he2, _, hcz⟩ := (hoI6.rd eI_len (by decide)).at1 HZG.out rfl
            simp only [Option.some.injEq, Addr.mk.injEq, and_true] at he2
            obtain ⟨rfl, rfl⟩ := he2
            rw [Nat.zero_add] at hcz
            obtain ⟨b', o', hxa, _, hc'⟩ := (HRX.out.below hb6).at1 HSX.out rfl
            subst hxa
            clear hcq hoJ hHJ hbq hb8
            have hcq := HCX.out _ hb6
            have d1 : decide (n2 < n2 + 1) = true := by simp
            have d2 : (n2 : Int) < (n2 : Int) + 1 := by omega
            go_wp2_with fail
            go_still_tail 16, (by kernel_rfl)
            still_call (still_of (l00Max_any 0 s.size _))
            repeat still_step
            refine wpStill_nil ?_
            change wpList _ _ _ _ _ w6.drew
            have hoD := hoI6.below (Below.refl w6.heap.size w6).drew
            have hbD : Below w.heap.size w w6.drew := hb6.drew
            clear hoI6 hb6 hcz hcq hc' d1 d2
            generalize w6.drew = wd at *
            go_wp2_with (with_reducible refine wpl_set eI_len (by decide) _ rfl 2 (.tmp 44) (.tmp 43) rfl g n2 rfl _ rfl (max 0 (s.size : Int)) rfl szI64 (eI_one _) w.heap.size 2 (n2 + 1) _ n2 _ hoD (Nat.lt_succ_self n2) (Nat.mul_one n2).symm w.heap.size hg hbD.size _ HY ?_)
            intro w8 hown8 hb8' _
            have hb9 := hbD.trans hb8'
            clear hoD hbD hb8'
            go_wp2_with fail
            go_roundw
            case rel => exact ⟨n2 + 1, _, _, _, by omega, by go_num, rfl, HN3.out, by rw [HL3.out] at hown8; exact hown8, hb9⟩
            case measure => simp [intOf]; omega
          · rw [if_neg hk0] at hn2 hoJ
            obtain rfl := hn2
            have HY := Lib.hid (upd_step hnew hlen)
            have hget := upd_get hzx hlen
            have HN3 : Hid (n2 = (if k = 0 then j + 1 else n2)) := Lib.hid (by rw [if_neg hk0])
            have HL3 : Hid ((widS W xs).take (j + 1) ++ W.drop (j + 1) = (widS W xs).take (j + 1) ++ (if k = 0 then [] else W.drop (j + 1))) := Lib.hid (by rw [if_neg hk0])
            obtain ⟨g, rfl, hg, _⟩ := hoJ.at_ (by omega)
            obtain ⟨g', o2, he2, _, hcz⟩ := (hoJ.rd eI_len (by decide)).at1 hget rfl
            simp only [Option.some.injEq, Addr.mk.injEq, and_true] at he2
            obtain ⟨rfl, rfl⟩ := he2
            rw [Nat.zero_add] at hcz
            obtain ⟨b', o', hxa, _, hc'⟩ := (HRX.out.below hbq).at1 HSX.out rfl
            subst hxa
            have d1 : ((j : Int) == (n2 : Int)) = false := by rw [beq_eq_false_iff_ne]; omega
            clear hsx hzx hlen hnew hwl hk0 hget
            go_wp2_with fail
            go_still_tail 16, (by kernel_rfl)
            still_call (still_of (l00Max_any z0 s.size _))
            repeat still_step
            refine wpStill_nil ?_
            change wpList _ _ _ _ _ wr.drew
            have hoD := hoJ.below (Below.refl wr.heap.size wr).drew
            have hbD : Below w.heap.size w wr.drew := hbq.drew
            clear hoJ hbq hcz hcq hc' d1
            generalize wr.drew = wd at *
            go_wp2_with (with_reducible refine wpl_set eI_len (by decide) _ rfl 2 (.tmp 44) (.tmp 43) rfl g j rfl _ rfl (max z0 (s.size : Int)) rfl szI64 (eI_one _) w.heap.size 2 n2 _ j _ hoD hlj (Nat.mul_one j).symm w.heap.size hg hbD.size _ HY ?_)
            intro w8 hown8 hb8' _
            have hb9 := hbD.trans hb8'
            clear hoD hbD hb8'
            go_wp2_with fail
            go_roundw
            case rel => exact ⟨j + 1, _, _, _, by omega, by go_num, rfl, HN3.out, by rw [HL3.out] at hown8; exact hown8, hb9⟩
            case measure => simp [intOf]; omega
        · obtain rfl : j = m := by omega
          have hfin : (widS W xs).take j ++ (if k = 0 then [] else W.drop j) = (if k + 1 = 0 then [] else widK j t (k + 1)) := by
            have : (if k = 0 then ([] : List Int) else W.drop j) = [] := by split <;> simp [HWL.out]
            rw [this, List.append_nil, if_neg (by omega), HST.out, List.take_of_length_le (by rw [widS_len (by rw [HWL.out, hXL.out]), hXL.out]; exact Nat.le_refl _)]
          rw [hfin] at hoJ
          have HN3 : Hid (n2 = (if k + 1 = 0 then 0 else j)) := Lib.hid (by rw [hn2, if_neg (by omega : ¬ k + 1 = 0)]; split <;> rfl)
          have HO3 := Lib.hid hoJ
          clear hfin hn2 hoJ
          go_wp2_with fail
          go_roundw
          case rel => exact ⟨k + 1, _, _, _, by omega, by go_num, rfl, HN3.out, HO3.out, hbq⟩
          case measure => simp [intOf]; omega
    · obtain rfl : k = n := by omega
      have hfin : (if k = 0 then [] else widK m t k) = widT t := by
        rw [HFIN.out]
        split
        · rename_i h
          have h2 := HM0.out h
          rw [h, h2]; rfl
        · rfl
      rw [hfin] at hoK
      have h8 : n2 ≤ 8 := by rw [hn2]; split <;> omega
      clear hfin hn2
      go_wp2_with fail
      go_ret
      exact ⟨_, _, _, rfl, h8, hoK, hb⟩
set_option maxHeartbeats 4000000 in
theorem implCW : Calls Tryd.prog 35 #[.slice a n c] w fun e w' => ∃ a' n' c', e = .returned (.tuple #[.slice a' n' c', .int .i64 (tabC (rows.map Row.xs))]) ∧ n' ≤ 1048576 ∧ Ow eI 1 w' w.heap.size 2 (.slice a' n' c') n' (cwL (rows.map Row.xs)) ∧ Below w.heap.size w w' := by
  have HL := Lib.hid hl
  have HS := Lib.hid hs
  clear hl hs
  have HCT : Hid (∀ w', Rd Row.enc 1 w' a rows → RowsOk w' rows → Calls Tryd.prog 52 #[.slice a n c] w' fun e w'' => e = .returned (.int .i64 (tabC (rows.map Row.xs))) ∧ w' = w'') := Lib.hid fun w' h1 h2 => checkTable_any rows a n c w' hn HL.out h2 h1
  obtain ⟨t, ht⟩ : ∃ t, rows.map Row.xs = t := ⟨_, rfl⟩
  by_cases h0 : tabC t = 0
  case neg =>
    rw [ht, cwL_bad h0]
    rw [ht] at HCT
    have hq := tabC_le t
    generalize tabC t = q at *
    have g : (q != 0) = true := by rw [bne_iff_ne]; exact h0
    go_enter Tryd.func35, Tryd.ntmps35
    go_wp2_with fail
    refine (HCT.out _ hr HS.out).mono ?_
    rintro e w1 ⟨rfl, rfl⟩
    go_wp2_with fail
    go_ret2
    exact ⟨none, 0, 0, rfl, by omega, Ow.nil _ _ _, Below.refl _ _⟩
  case pos =>
  have hcw := cwL_ok h0
  have hlt : t.length = n := by rw [← ht]; simpa using HL.out
  rw [ht, h0]
  rw [ht, h0] at HCT
  have hsh := shapeT_parts (tabC_ok h0).2
  have hn60 : n ≤ 60 := by rw [← hlt]; exact hsh.1
  by_cases hz : n = 0
  · subst hz
    have ht0 : t = [] := List.eq_nil_of_length_eq_zero hlt
    have hcw0 : cwL t = [] := by rw [hcw, ht0]; rfl
    rw [hcw0]
    clear hcw h0 hlt hsh hcw0
    have hbb := below_built w 2
    have hbo := Ow.built eI 1 w 2
    have HBB := Lib.hid hbb
    have HBO := Lib.hid hbo
    clear hbb hbo ht ht0
    go_enter Tryd.func35, Tryd.ntmps35
    go_wp2_with fail
    refine (HCT.out _ hr HS.out).mono ?_
    rintro e w1 ⟨rfl, rfl⟩
    go_wp2_with fail
    go_ret2
    exact ⟨_, _, _, rfl, by omega, HBO.out, HBB.out⟩
  obtain ⟨m, hm⟩ : ∃ m, (t.headD []).length = m := ⟨_, rfl⟩
  have hrow : ∀ r ∈ t, r.length = m := fun r hr' => by rw [← hm]; exact (hsh.2 r hr').1
  have hm8 : m ≤ 8 := by
    obtain ⟨x, hx, _⟩ := take_snoc' t 0 (by omega)
    have := (hsh.2 x (List.mem_of_getElem? hx)).2.1
    rw [hrow x (List.mem_of_getElem? hx)] at this; exact this
  have HROW := Lib.hid hrow
  have HSZ : Hid (∀ r ∈ t, ∀ s ∈ r, s.size ≤ 80) := Lib.hid fun r hr' => (hsh.2 r hr').2.2
  have HW := Lib.hid (fun k => widK_len (t := t) hrow k)
  have HT := Lib.hid ht
  have HFIN : Hid (cwL t = widK m t n) := Lib.hid (by rw [hcw, widT, hm, hlt])
  have HLT := Lib.hid hlt
  obtain ⟨y, hy, _⟩ := take_snoc' rows 0 (by rw [HL.out]; omega)
  have hym : y.n = m := by
    have h1 := (HS.out y (List.mem_of_getElem? hy)).1
    have h2 := hrow y.xs (by rw [← ht]; exact mem_xs hy)
    omega
  obtain ⟨b0, o0, rfl, hbl0, hc0⟩ := hr.at1 hy rfl
  rw [Nat.add_zero, hym] at hc0
  have HHM := Lib.hid hm
  clear hm hrow hsh hlt hcw h0 ht hy hym
  obtain ⟨zs, hzs⟩ : ∃ zs, List.replicate m (0 : Int) = zs := ⟨_, rfl⟩
  have HZ := Lib.hid hzs; clear hzs
  have h0n : 0 < n := by omega
  have hnz : ((n : Int) == 0) = false := by rw [beq_eq_false_iff_ne]; omega
  have b3 : m ≤ maxLen := by unfold maxLen; omega
  go_enter Tryd.func35, Tryd.ntmps35
  go_wp2_with fail
  refine (HCT.out _ hr HS.out).mono ?_
  rintro e w1 ⟨rfl, rfl⟩
  go_wp2_with (at_make; refine wpl_make eI_len (by decide) _ rfl _ _ 47 rfl 2 (0 : Int) _ 8 rfl Tryd.underlying47 Tryd.info2 .i64 .i64 _ _ m rfl rfl rfl rfl ?b2 b3 zs HZ ?_)
  case b2 => omega
  intro w1 hown hbel _
  clear hnz
  go_wp2_with fail
  clear hc0
  go_loopw [26] (fun i wr => ∃ k : Nat, k ≤ n ∧ i = .int .i64 k ∧ Ow eI 1 wr w.heap.size 2 (.slice (some ⟨w.heap.size, 0, none⟩) m m) m (widK m t k) ∧ Below w.heap.size w wr) (fun i _ => n - (intOf i).toNat)
  case atStart => exact ⟨0, Nat.zero_le _, rfl, by rw [← HZ.out] at hown; exact hown, hbel⟩
  case round =>
    obtain ⟨k, hk, rfl, hoK, hb⟩ := hrel
    clear hown hbel
    by_cases hlt : k < n
    · obtain ⟨x, hx, htk⟩ := take_snoc' rows k (by rw [HL.out]; exact hlt)
      obtain ⟨b, o, he, hbl, hc⟩ := (hr.below hb).at1 hx rfl
      simp only [Option.some.injEq, Addr.mk.injEq, and_true] at he
      obtain ⟨rfl, rfl⟩ := he
      have hok := Lib.hid (HS.out x (List.mem_of_getElem? hx))
      have htx : t[k]? = some x.xs := by rw [← HT.out, List.getElem?_map, hx]; rfl
      have hxm : x.n = m := by
        have h1 := hok.out.1
        have h2 := HROW.out x.xs (List.mem_of_getElem? htx)
        omega
      have HST := Lib.hid (widK_step (m := m) htx)
      have HXS := Lib.hid (HSZ.out x.xs (List.mem_of_getElem? htx))
      have HWL := Lib.hid (HW.out k)
      obtain ⟨W, hW⟩ : ∃ W, widK m t k = W := ⟨_, rfl⟩
      rw [hW] at hoK HST HWL
      rw [hxm] at hc
      have hXL : Hid (x.xs.length = m) := Lib.hid (by have h1 := hok.out.1; omega)
      have HRX := Lib.hid hok.out.2.2.2
      clear htk hx htx hW hxm hr hok
      obtain ⟨xa, xn, xc, xs⟩ := x
      simp only at hc HST HXS hXL HRX
      go_wp2_with fail
      clear hc
      have HOS : Hid (Ow eI 1 wr w.heap.size 2 (.slice (some ⟨w.heap.size, 0, none⟩) m m) m ((widS W xs).take 0 ++ W.drop 0)) := Lib.hid (by simpa using hoK)
      go_loopw [32] (fun i wq => ∃ j : Nat, j ≤ m ∧ i = .int .i64 j ∧ Ow eI 1 wq w.heap.size 2 (.slice (some ⟨w.heap.size, 0, none⟩) m m) m ((widS W xs).take j ++ W.drop j) ∧ Below w.heap.size w wq) (fun i _ => m - (intOf i).toNat)
      case atStart => exact ⟨0, Nat.zero_le _, rfl, HOS.out, hb⟩
      case round =>
        obtain ⟨j, hj, rfl, hoJ, hbq⟩ := hrel
        clear hoK HOS hb
        by_cases hlj : j < m
        · obtain ⟨s, hsx, _⟩ := take_snoc' xs j (by rw [hXL.out]; exact hlj)
          obtain ⟨z, hzx, _⟩ := take_snoc' W j (by rw [HWL.out]; exact hlj)
          obtain ⟨b', o', hxa, _, hc'⟩ := (HRX.out.below hbq).at1 hsx rfl
          subst hxa
          have hlen : (widS W xs).length = W.length := by rw [widS_len (by rw [HWL.out, hXL.out]), HWL.out, hXL.out]
          have hnew := widS_get hzx hsx
          have HY := Lib.hid (upd_step hnew hlen)
          have hget := upd_get hzx hlen
          obtain ⟨g, o2, he2, _, hcz⟩ := (hoJ.rd eI_len (by decide)).at1 hget rfl
          simp only [Option.some.injEq, Addr.mk.injEq, and_true] at he2
          obtain ⟨rfl, rfl⟩ := he2
          rw [Nat.zero_add] at hcz
          have hs80 := HXS.out s (List.mem_of_getElem? hsx)
          clear hsx hzx hlen hnew hget
          by_cases hmx : z < (s.size : Int)
          · rw [show maxS z s = s.size from if_pos hmx] at HY
            go_wp2_with (with_reducible refine wpl_set eI_len (by decide) _ rfl 2 (.tmp 46) (.tmp 45) rfl w.heap.size j rfl _ rfl (s.size : Int) rfl szI64 (eI_one _) w.heap.size 2 m m j _ hoJ hlj (Nat.mul_one j).symm w.heap.size (Nat.le_refl _) hbq.size _ HY ?_)
            intro w3 hown3 hb3 _
            have hb4 := hbq.trans hb3
            clear hcz hoJ hbq hb3
            go_wp2_with fail
            go_roundw
            case rel => exact ⟨j + 1, by omega, by go_num, hown3, hb4⟩
            case measure => simp [intOf]; omega
          · rw [show maxS z s = z from if_neg hmx] at HY
            go_wp2_with (with_reducible refine wpl_set eI_len (by decide) _ rfl 2 (.tmp 46) (.tmp 45) rfl w.heap.size j rfl _ rfl z rfl szI64 (eI_one _) w.heap.size 2 m m j _ hoJ hlj (Nat.mul_one j).symm w.heap.size (Nat.le_refl _) hbq.size _ HY ?_)
            intro w3 hown3 hb3 _
            have hb4 := hbq.trans hb3
            clear hcz hoJ hbq hb3
            go_wp2_with fail
            go_roundw
            case rel => exact ⟨j + 1, by omega, by go_num, hown3, hb4⟩
            case measure => simp [intOf]; omega
        · obtain rfl : j = m := by omega
          have hfin : (widS W xs).take j ++ W.drop j = widK j t (k + 1) := by
            rw [HST.out, List.take_of_length_le (by rw [widS_len (by rw [HWL.out, hXL.out]), hXL.out]; exact Nat.le_refl _), List.drop_of_length_le (by rw [HWL.out]; exact Nat.le_refl _), List.append_nil]
          rw [hfin] at hoJ
          clear hfin
          go_wp2_with fail
          go_roundw
          case rel => exact ⟨k + 1, by omega, by go_num, hoJ, hbq⟩
          case measure => simp [intOf]; omega
    · obtain rfl : k = n := by omega
      rw [← HFIN.out] at hoK
      go_wp2_with fail
      go_ret2
      exact ⟨_, _, _, rfl, by omega, hoK, hb⟩
end
end Go.Proofs.YtkgkammobogcbaaDoor
