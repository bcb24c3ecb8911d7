/-
  Equal windows.
-/
import Derived.Test.YthjpfidlpdgeaaaWs3
namespace Go.Proofs.Ythjpfidlpdgeaaa
open Go.RowKit
set_option maxRecDepth 100000
set_option linter.unusedVariables false
set_option linter.unusedSimpArgs false
theorem guardWn (op : BinOp) (o o' : Operand) (xs ys : Array Value) (wx : World) : (eqGuard op 39 o o' (.agg xs) (.agg ys)).run Try.prog wx = .ok () wx := run_eqGuard_agg wx op _ o o' xs ys (by kernel_rfl)
theorem neqWn (x : Win) (wx : World) : (binOp .neq 39 (.agg #[.int .i64 x.frm, .int .i64 x.til]) (.agg #[.int .i64 x.frm, .int .i64 x.til])).run Try.prog wx = .ok (.bool false) wx := by
  rw [run_neq_struct, run_equalIn_agg _ _ _ _ _ (by kernel_rfl) (by kernel_rfl)]
  rw [Program.fieldsOf, Try.underlying39]
  have e1 := fun w a b => run_equalIn_int (P := Try.prog) w 9998 2 .i64 .i64 a b Try.underlying2
  have p0 : ∀ (b c : Int) (w : World), (part 2 #[.int .i64 b, .int .i64 c] 0).run Try.prog w = .ok (.int .i64 b) w := by intros; kernel_rfl
  have p1 : ∀ (b c : Int) (w : World), (part 2 #[.int .i64 b, .int .i64 c] 1).run Try.prog w = .ok (.int .i64 c) w := by intros; kernel_rfl
  simp only [Op.eqFields, p0, p1, e1, Sem.run_bind, Sem.run_ite, Sem.run_pure, Result.andThen_ok, ne_eq, String.reduceEq, not_false_eq_true, if_true, beq_self_eq_true]
  rfl
set_option maxHeartbeats 1000000 in
theorem l15Same_eq (ws : List Win) (a a2 : Option Addr) (n c c2 : Nat) (w : World) (hn : n ≤ 1000) (hl : ws.length = n) (hr : Rd Win.enc 2 w a ws) (hr2 : Rd Win.enc 2 w a2 ws) : Calls Try.prog 35 #[.slice a n c, .slice a2 n c2] w fun e w' => e = .returned (.bool true) ∧ Below w.heap.size w w' := by
  have HL := Lib.hid hl
  have HR := Lib.hid hr
  have HR2 := Lib.hid hr2
  have dnn : ((n : Int) != (n : Int)) = false := by simp
  clear hl hr hr2
  go_enter Try.func35, Try.ntmps35
  go_wp2_with fail
  go_loopw [5] (fun i wr => ∃ (k : Nat), k ≤ n ∧ i = .int .i64 k ∧ Hid (Below w.heap.size w wr)) (fun i _ => n - (intOf i).toNat)
  case atStart => exact ⟨0, Nat.zero_le _, rfl, Lib.hid (Below.refl _ _)⟩
  case round =>
    obtain ⟨k, hk, rfl, HB2⟩ := hrel
    obtain ⟨wr1, hwr⟩ : ∃ wx, wx = wr := ⟨_, rfl⟩
    subst hwr
    by_cases hlt : k < n
    · obtain ⟨x3, hx⟩ : ∃ z, (ws)[k]? = some z := ⟨_, List.getElem?_eq_getElem (by rw [HL.out]; omega)⟩
      have HXx3 := Lib.hid hx
      clear hx
      obtain ⟨b4, o5, hab, hc6⟩ := HR.out.addr (by rw [HL.out]; omega)
      have HC6 := Lib.hid hc6
      clear hc6
      subst hab
      have c7 : wr1.cell? ⟨b4, o5 + k * 2, none⟩ = some (.int .i64 x3.frm) := HC6.out k x3 HXx3.out wr1 HB2.out 0 _ rfl
      have c8 : wr1.cell? ⟨b4, o5 + k * 2 + 1, none⟩ = some (.int .i64 x3.til) := HC6.out k x3 HXx3.out wr1 HB2.out 1 _ rfl
      have j9 : (0 : Int) ≤ (k : Nat) := by omega
      have j10 : ((k : Nat) : Int) < n := by omega
      obtain ⟨b11, o12, hab, hc13⟩ := HR2.out.addr (by rw [HL.out]; omega)
      have HC13 := Lib.hid hc13
      clear hc13
      subst hab
      have c14 : wr1.cell? ⟨b11, o12 + k * 2, none⟩ = some (.int .i64 x3.frm) := HC13.out k x3 HXx3.out wr1 HB2.out 0 _ rfl
      have c15 : wr1.cell? ⟨b11, o12 + k * 2 + 1, none⟩ = some (.int .i64 x3.til) := HC13.out k x3 HXx3.out wr1 HB2.out 1 _ rfl
      have hgd := guardWn
      have hq16 := fun wx => neqWn x3 wx
      go_wp2_with fail
      go_quiet (fail)
      have hbq : Below wr1.heap.size wr1 (wr1.drewN nq) := below_drewN (Below.refl _ _) nq
      obtain ⟨wv17, hwq⟩ : ∃ wq, wr1.drewN nq = wq := ⟨_, rfl⟩
      rw [hwq] at hbq ⊢
      clear hwq
      clear c7 c8 j9 j10 c14 c15 hgd hq16
      have HB18 : Hid (Below w.heap.size w wv17) := Lib.hid (HB2.out.trans (hbq.mono HB2.out.size))
      clear hbq
      have i19 : IntKind.i64.wrap ((k : Int) + 1) = (k : Int) + 1 := IntWalk.i64_in _ (by omega)
      go_wp2_with fail
      go_roundw
      case rel => exact ⟨k + 1, by omega, by go_num, HB18⟩
      case measure => simp [intOf]; omega
    · have hkn : k = n := by omega
      have HKN := Lib.hid hkn
      clear hkn
      go_wp2_with fail
      go_ret
      exact ⟨rfl, HB2.out⟩
theorem spSameWindows (ws : List Win) (a a2 : Option Addr) (n c c2 : Nat) (w : World) (hn : n ≤ 1000) (hl : ws.length = n) (hr : Rd Win.enc 2 w a ws) (hr2 : Rd Win.enc 2 w a2 ws) : Calls Try.prog 15 #[.slice a n c, .slice a2 n c2] w fun e w' => e = .returned (.bool true) ∧ Below w.heap.size w w' := by
  have HC := Lib.hid (l15Same_eq ws a a2 n c c2 w hn hl hr hr2)
  clear hl hr hr2
  go_enter Try.func15, Try.ntmps15
  go_wp2_with fail
  refine (HC.out).mono ?_
  rintro e w1 ⟨rfl, hb1⟩
  go_wp2_with fail
  go_ret
  exact ⟨rfl, hb1⟩
end Go.Proofs.Ythjpfidlpdgeaaa
