/-
  A number repeated (the library's slices.Repeat at one number).
-/
import Derived.Test.YtkbcjegfobngaaaDoorAs2
import Derived.Test.YtkbcjegfobngaaaDoorTwo
import Derived.Test.YtkbcjegfobngaaaDoorShelf
import Derived.Laws.CopyOwn
import Derived.Deep.RegionLaw
namespace Go.Proofs.YtkbcjegfobngaaaDoor
open Go.RowKit
set_option maxRecDepth 100000
set_option linter.unusedVariables false
set_option linter.unusedSimpArgs false
def repC (m k : Nat) : List Value := List.replicate k (.int .i64 (-1)) ++ List.replicate (m - k) (.int .i64 0)
theorem repC_len {m k : Nat} (h : k ≤ m) : (repC m k).length = m := by simp [repC]; omega
theorem repC_splice {m k c : Nat} (h : k + c ≤ m) : splice (repC m k) k (List.replicate c (.int .i64 (-1))) = repC m (k + c) := by
  unfold splice repC
  rw [List.take_append_of_le_length (by simp), List.take_of_length_le (by simp), List.length_replicate, List.drop_append, List.drop_of_length_le (by simp)]
  simp only [List.length_replicate, List.nil_append, List.drop_replicate]
  rw [← List.append_assoc, List.replicate_append_replicate, show m - k - (k + c - k) = m - (k + c) by omega]
theorem repC_get {m k j : Nat} (h : j < k) : (repC m k)[j]? = some (.int .i64 (-1)) := by
  unfold repC
  rw [List.getElem?_append_left (by simpa using h), List.getElem?_replicate, if_pos h]
theorem infoRp : (Tryd.prog.info? 2).map (·.size) = some 1 := by kernel_rfl
theorem repOw {m g B : Nat} {w : World} (h4 : m ≤ 4) (hB : B ≤ g) (h : w.heap[g]? = some (.cells (repC m m).toArray 2 (0, 0))) : Ow eI 1 w B 2 (.slice (some ⟨g, 0, none⟩) m m) m (List.replicate m (-1)) := by
  have e9 : repC m m = (List.replicate m (-1 : Int)).flatMap eI := by unfold repC; simp [List.flatMap_replicate, eI]
  have hl := repC_len (Nat.le_refl m)
  have hm : m ≤ maxLen := Nat.le_trans h4 (by decide)
  refine ⟨by rw [← e9, hl, Nat.mul_one], .inr ⟨g, m, (repC m m).toArray, rfl, hB, h, Nat.le_refl _, hm, by rw [List.size_toArray, hl, Nat.mul_one], ?_⟩⟩
  rw [← e9, Nat.mul_one, List.take_of_length_le (by rw [hl]; exact Nat.le_refl _)]
theorem mulRp (m : Nat) (w : World) (hm : m ≤ 4) : Calls Tryd.prog 33 #[.int .u64 1, .int .u64 (m : Int)] w fun e w' => e = .returned (.tuple #[.int .u64 0, .int .u64 (m : Int)]) ∧ w = w' := by
  go_enter Tryd.func33, Tryd.ntmps33
  go_wp2_with fail
  refine (Shbits_Mul64 1 m (by omega) (by omega) _).mono ?_
  rintro e w1 ⟨rfl, rfl⟩
  rw [show 1 * m / 18446744073709551616 = 0 by omega, show 1 * m % 18446744073709551616 = m by omega]
  go_wp2_with fail
  go_ret2
  exact ⟨rfl, rfl⟩
set_option maxHeartbeats 4000000 in
theorem repeatA (m b : Nat) (w : World) (h1 : 1 ≤ m) (h4 : m ≤ 4) (hc : w.cell? ⟨b, 0, none⟩ = some (.int .i64 (-1))) : Calls Tryd.prog 19 #[.slice (some ⟨b, 0, none⟩) 1 1, .int .i64 (m : Int)] w fun e w' => ∃ g : Nat, e = .returned (.slice (some ⟨g, 0, none⟩) m m) ∧ Ow eI 1 w' w.heap.size 2 (.slice (some ⟨g, 0, none⟩) m m) m (List.replicate m (-1)) ∧ Below w.heap.size w w' := by
  have HC := Lib.hid hc
  have hbl := lt_of_cell hc
  obtain ⟨zs, hzs⟩ : ∃ zs : List Int, List.replicate m (0 : Int) = zs := ⟨_, rfl⟩
  have HZS := Lib.hid hzs
  clear hc hzs
  have d0 : decide ((m : Int) < 0) = false := decide_eq_false (by omega)
  have i1 : IntKind.u64.wrap (m : Int) = (m : Int) := by rw [IntKind.wrap_u64]; omega
  have i2 : IntKind.i64.wrap (m : Int) = (m : Int) := IntWalk.i64_in _ (by omega)
  have d1 : decide ((9223372036854775807 : Int) < (m : Int)) = false := decide_eq_false (by omega)
  go_enter Tryd.func19, Tryd.ntmps19
  go_wp2_with fail
  refine (mulRp m _ h4).mono ?_
  rintro e wz ⟨rfl, rfl⟩
  go_wp2_with (at_make; refine wpl_make eI_len (by decide) _ rfl _ _ 26 rfl 2 (0 : Int) _ 8 rfl Tryd.underlying26 infoAs .i64 .i64 _ _ m rfl rfl (by first | rfl | omega) (by first | rfl | omega) (by omega) (by unfold maxLen; omega) zs HZS ?_)
  intro w1 ho1 hb1 hs1
  obtain ⟨g, hg⟩ : ∃ g, w.heap.size = g := ⟨_, rfl⟩
  rw [hg] at ho1 ⊢
  have hheap : w1.heap[g]? = some (.cells (repC m 0).toArray 2 (0, 0)) := by
    rcases ho1.2 with ⟨h, _⟩ | ⟨g', cap, cur, h, _, h3, h5, _, h6, h7⟩
    · cases h
    · cases h
      rw [h3]
      have hcur : cur.toList = repC m 0 := by
        rw [← HZS.out] at h7
        rw [List.take_of_length_le (by rw [Array.length_toList, h6]; exact Nat.le_refl _)] at h7
        rw [h7]
        unfold repC
        simp [List.flatMap_replicate, eI]
      rw [← hcur]
  have HH := Lib.hid hheap
  have HB1 := Lib.hid hb1
  have HGG := Lib.hid hg
  have HC1 : Hid (w1.cell? ⟨b, 0, none⟩ = some (.int .i64 (-1))) := Lib.hid ((hb1.cell (p := ⟨b, 0, none⟩) hbl).trans HC.out)
  clear ho1 hb1 hs1 hg hheap
  have HP1 : (List.replicate 1 (Value.int .i64 (-1))).length = Nat.min 1 m := by show 1 = min 1 m; omega
  have HP2 : ∀ j v, (List.replicate 1 (Value.int .i64 (-1)))[j]? = some v → w1.cell? ((⟨b, 0, none⟩ : Addr).add j) = some v := fun j v hj => by
    rw [List.getElem?_replicate] at hj
    split at hj
    · obtain rfl : j = 0 := by omega
      cases hj
      exact HC1.out
    · cases hj
  have HP3 : 0 + (List.replicate 1 (Value.int .i64 (-1))).length ≤ (repC m 0).length := by rw [repC_len (by omega)]; show 0 + 1 ≤ m; omega
  have HP4 : ∀ v ∈ (List.replicate 1 (Value.int .i64 (-1))), v.oneCell' = true := fun v hv => by rw [(List.mem_replicate.1 hv).2]; rfl
  have Q1 := Lib.hid HP1
  have Q2 := Lib.hid HP2
  have Q3 := Lib.hid HP3
  have Q4 := Lib.hid HP4
  clear HP1 HP2 HP3 HP4
  have hwg : w.heap.size ≤ g := by rw [HGG.out]; exact Nat.le_refl _
  go_wp2_with (with_reducible refine wpList_copy_splice rfl (.tmp 31) (.tmp 32) 26 26 rfl 2 Tryd.underlying26 infoRp (some ⟨g, 0, none⟩) (some ⟨b, 0, none⟩) m m 1 1 rfl rfl g 0 (repC m 0) 2 HH.out (List.replicate 1 (.int .i64 (-1))) Q1.out (fun _ => ⟨rfl, ⟨b, 0, none⟩, rfl, Q2.out⟩) Q3.out Q4.out w.heap.size w HB1.out hwg ?_)
  intro w2 hg2 hb2
  have HH2 : Hid (w2.heap[g]? = some (.cells (repC m 1).toArray 2 (0, 0))) := Lib.hid (by rw [hg2.out]; have e1 : splice (repC m 0) 0 (List.replicate 1 (.int .i64 (-1))) = repC m (0 + 1) := repC_splice (by omega); rw [Nat.zero_add] at e1; exact congrArg (fun z : List Value => some (Obj.cells z.toArray 2 (0, 0))) e1)
  have HB2 := Lib.hid hb2
  clear hg2 hb2 HC1 HH Q1 Q2 Q3 Q4
  go_wp2_with fail
  go_loopw [8] (fun i wr => ∃ (k : Nat) (kv : Int), 1 ≤ k ∧ k ≤ m ∧ Hid (kv = (k : Int)) ∧ i = .int .i64 kv ∧ Hid (wr.heap[g]? = some (.cells (repC m k).toArray 2 (0, 0))) ∧ Hid (Below w.heap.size w wr)) (fun i _ => m - (intOf i).toNat)
  case atStart => exact ⟨1, 1, by omega, h1, Lib.hid rfl, rfl, HH2, HB2⟩
  case round =>
  obtain ⟨k, kv, hk1, hk, HKV, rfl, HHk, HBk⟩ := hrel
  obtain rfl := HKV.out
  obtain ⟨wA, hwA⟩ : ∃ wx, wx = wr := ⟨_, rfl⟩
  subst hwA
  clear HH2 HB2
  by_cases hlt : k < m
  · obtain ⟨c, hc⟩ : ∃ c, Nat.min k (m - k) = c := ⟨_, rfl⟩
    have hc1 : c ≤ k ∧ c ≤ m - k ∧ 1 ≤ c := by rw [← hc]; show min k (m - k) ≤ k ∧ min k (m - k) ≤ m - k ∧ 1 ≤ min k (m - k); omega
    have j0 : (0 : Int) ≤ (k : Nat) := by omega
    have j1 : ((k : Nat) : Int) ≤ (m : Nat) := by omega
    have j2 : k ≤ m := hk
    have hmk : ¬ m = k := by omega
    have HCC := Lib.hid hc
    have i5 : IntKind.i64.wrap ((k : Int) + (c : Int)) = (k : Int) + (c : Int) := IntWalk.i64_in _ (by omega)
    have HBD : Hid (Below w.heap.size w wA.drew) := Lib.hid HBk.out.drew
    clear hc
    have Q1 : Hid ((List.replicate c (Value.int .i64 (-1))).length = Nat.min k (m - k)) := Lib.hid (by rw [List.length_replicate]; exact HCC.out.symm)
    have Q2 : Hid (∀ j v, (List.replicate c (Value.int .i64 (-1)))[j]? = some v → wA.drew.cell? ((⟨g, 0, none⟩ : Addr).add j) = some v) := Lib.hid fun j v hj => by
      rw [List.getElem?_replicate] at hj
      split at hj
      · cases hj
        rw [addr_add, Nat.zero_add, cell_of_row wA.drew g j (repC m k).toArray 2 (0, 0) HHk.out]
        simpa using repC_get (m := m) (show j < k by omega)
      · cases hj
    have Q3 : Hid (k + (List.replicate c (Value.int .i64 (-1))).length ≤ (repC m k).length) := Lib.hid (by rw [repC_len hk, List.length_replicate]; omega)
    have Q4 : Hid (∀ v ∈ (List.replicate c (Value.int .i64 (-1))), v.oneCell' = true) := Lib.hid fun v hv => by rw [(List.mem_replicate.1 hv).2]; rfl
    have HHD : Hid (wA.drew.heap[g]? = some (.cells (repC m k).toArray 2 (0, 0))) := Lib.hid HHk.out
    go_wp2_with fail
    go_region_law (first
      | (refine step_copy_splice rfl (.tmp 41) (.tmp 44) 26 26 rfl 2 Tryd.underlying26 infoRp (some ⟨g, k, none⟩) (some ⟨g, 0, none⟩) (m - k) (m - k) k m ?_ ?_ g k (repC m k) 2 ?_ (List.replicate c (.int .i64 (-1))) Q1.out ?_ Q3.out Q4.out w.heap.size w ?_ hwg ?_; (· (simp [Act.put, Act.eval, hmk]; done)); (· (simp [Act.put, Act.eval, hmk]; done)); (· exact HHD.out); (· exact fun _ => ⟨rfl, ⟨g, 0, none⟩, rfl, Q2.out⟩); (· exact HBD.out); intro w4 hg4 hb4; have HG4 := Lib.hid hg4; have HB4 := Lib.hid hb4; clear hg4 hb4))
    have HH4 : Hid (w4.heap[g]? = some (.cells (repC m (k + c)).toArray 2 (0, 0))) := Lib.hid (by rw [HG4.out, repC_splice (by omega)])
    clear HG4
    go_simp
    go_roundw
    case rel => exact ⟨_, _, _, _, _, _, _, _, _, _, _, _, _, _, ⟨k + c, (k : Int) + (c : Int), by omega, by omega, Lib.hid (by omega), rfl, HH4, HB4⟩, rfl⟩
    case measure => simp [intOf]; omega
  · obtain rfl : m = k := by omega
    have HOF := Lib.hid (repOw h4 hwg HHk.out)
    go_wp2_with fail
    go_ret
    exact ⟨g, rfl, HOF.out, HBk.out⟩
end Go.Proofs.YtkbcjegfobngaaaDoor
