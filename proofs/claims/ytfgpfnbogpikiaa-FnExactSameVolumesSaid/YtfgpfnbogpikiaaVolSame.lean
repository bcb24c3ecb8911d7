/-
  Equal lists of volumes.
-/
import Derived.Test.YtfgpfnbogpikiaaVolAt
import Derived.Laws.StructEq
namespace Go.Proofs.Ytfgpfnbogpikiaa
open Go.RowKit
set_option maxRecDepth 100000

def eqV (x y : Vol) : Bool := x.name.toList == y.name.toList && (x.frm == y.frm && (x.til == y.til && (x.cnt == y.cnt && x.cop == y.cop)))
theorem guardV (op : BinOp) (o o' : Operand) (xs ys : Array Value) (wx : World) : (eqGuard op 40 o o' (.agg xs) (.agg ys)).run Try.prog wx = .ok () wx := run_eqGuard_agg wx op _ o o' xs ys (by kernel_rfl)
theorem neqV (x y : Vol) (wx : World) : (binOp .neq 40 (.agg #[.string x.name, .int .i64 x.frm, .int .i64 x.til, .int .i64 x.cnt, .int .i64 x.cop]) (.agg #[.string y.name, .int .i64 y.frm, .int .i64 y.til, .int .i64 y.cnt, .int .i64 y.cop])).run Try.prog wx = .ok (.bool (!(eqV x y))) wx := by
  rw [run_neq_struct, run_equalIn_agg _ _ _ _ _ (by kernel_rfl) (by kernel_rfl)]
  rw [Program.fieldsOf, Try.underlying40]
  have e1 := fun w a b => run_equalIn_int (P := Try.prog) w 9998 2 .i64 .i64 a b Try.underlying2
  have e2 := fun w a b => run_equalIn_string (P := Try.prog) w 9998 9 a b Try.underlying9
  have p0 : ∀ (s : ByteArray) (b c d e : Int) (w : World), (part 9 #[.string s, .int .i64 b, .int .i64 c, .int .i64 d, .int .i64 e] 0).run Try.prog w = .ok (.string s) w := by intros; kernel_rfl
  have p1 : ∀ (s : ByteArray) (b c d e : Int) (w : World), (part 2 #[.string s, .int .i64 b, .int .i64 c, .int .i64 d, .int .i64 e] 1).run Try.prog w = .ok (.int .i64 b) w := by intros; kernel_rfl
  have p2 : ∀ (s : ByteArray) (b c d e : Int) (w : World), (part 2 #[.string s, .int .i64 b, .int .i64 c, .int .i64 d, .int .i64 e] 2).run Try.prog w = .ok (.int .i64 c) w := by intros; kernel_rfl
  have p3 : ∀ (s : ByteArray) (b c d e : Int) (w : World), (part 2 #[.string s, .int .i64 b, .int .i64 c, .int .i64 d, .int .i64 e] 3).run Try.prog w = .ok (.int .i64 d) w := by intros; kernel_rfl
  have p4 : ∀ (s : ByteArray) (b c d e : Int) (w : World), (part 2 #[.string s, .int .i64 b, .int .i64 c, .int .i64 d, .int .i64 e] 4).run Try.prog w = .ok (.int .i64 e) w := by intros; kernel_rfl
  unfold eqV
  simp only [Op.eqFields, p0, p1, p2, p3, p4, e1, e2, Sem.run_bind, Sem.run_ite, Sem.run_pure, Result.andThen_ok, ne_eq, String.reduceEq, not_false_eq_true, if_true]
  generalize (x.name.toList == y.name.toList) = b0
  generalize (x.frm == y.frm) = b1
  generalize (x.til == y.til) = b2
  generalize (x.cnt == y.cnt) = b3
  generalize (x.cop == y.cop) = b4
  cases b0 <;> cases b1 <;> cases b2 <;> cases b3 <;> cases b4 <;> rfl

def sameV (vs us : List Vol) (i : Nat) : Bool := match vs[i]?, us[i]? with | some x, some y => eqV x y | _, _ => false
theorem sameV_eq {vs us : List Vol} {i : Nat} {x y : Vol} (hx : vs[i]? = some x) (hy : us[i]? = some y) : sameV vs us i = eqV x y := by simp [sameV, hx, hy]
def sameVs (vs us : List Vol) : Bool := decide (vs.length = us.length) && allB vs.length (sameV vs us)
theorem sameVs_len {vs us : List Vol} (h : vs.length ≠ us.length) : sameVs vs us = false := by simp [sameVs, h]
theorem sameVs_bad {vs us : List Vol} {i : Nat} (hi : i < vs.length) (h : sameV vs us i = false) : sameVs vs us = false := by
  have := allB_false hi h
  simp [sameVs, this]
theorem sameVs_ok {vs us : List Vol} (hl : vs.length = us.length) (h : ∀ i, i < vs.length → sameV vs us i = true) : sameVs vs us = true := by
  have := allB_true h
  unfold sameVs
  rw [this, decide_eq_true hl]
  rfl

set_option maxHeartbeats 2000000 in
theorem specSame (vs us : List Vol) (a a' : Option Addr) (n n' c c' : Nat) (w : World) (hn : n ≤ 1048576) (hn' : n' ≤ 1048576) (hl : vs.length = n) (hl' : us.length = n') (hr : Rd Vol.enc 5 w a vs) (hr' : Rd Vol.enc 5 w a' us) :
    Calls Try.prog 14 #[.slice a n c, .slice a' n' c'] w fun e w' => e = .returned (.bool (sameVs vs us)) ∧ Below w.heap.size w w' := by
  have HL := Lib.hid hl
  have HL' := Lib.hid hl'
  by_cases hnn : n = n'
  case neg =>
    have HF := Lib.hid (sameVs_len (vs := vs) (us := us) (by omega))
    have d1 : ((n : Int) == (n' : Int)) = false := by rw [beq_eq_false_iff_ne]; omega
    have d2 : ((n : Int) != (n' : Int)) = true := by rw [bne_iff_ne]; omega
    clear hl hl' hnn
    go_enter Try.func14, Try.ntmps14
    go_wp2_with fail
    go_ret
    exact ⟨by rw [HF.out]; rfl, Below.refl _ _⟩
  subst hnn
  clear hl hl'
  go_enter Try.func14, Try.ntmps14
  go_wp2_with fail
  go_loopw [5] (fun i wr => ∃ k : Nat, k ≤ n ∧ i = .int .i64 k ∧ Hid (∀ j, j < k → sameV vs us j = true) ∧ Below w.heap.size w wr) (fun i _ => n - (intOf i).toNat)
  case atStart => exact ⟨0, Nat.zero_le _, rfl, fun j hj => absurd hj (by omega), Below.refl _ _⟩
  case round =>
    obtain ⟨k, hk, rfl, HK, hb⟩ := hrel
    by_cases hlt : k < n
    · obtain ⟨x, hx, htk⟩ := take_snoc' vs k (by rw [HL.out]; omega)
      obtain ⟨b, o, rfl, hbl, hc⟩ := (hr.below hb) k x hx
      have c0 := hc 0 _ rfl
      rw [Nat.add_zero] at c0
      have c1 := hc 1 _ rfl
      have c2 := hc 2 _ rfl
      have c3 := hc 3 _ rfl
      have c4 := hc 4 _ rfl
      clear hc htk hr
      obtain ⟨y, hy, htk⟩ := take_snoc' us k (by rw [HL'.out]; omega)
      obtain ⟨b', o', rfl, hbl', hc⟩ := (hr'.below hb) k y hy
      have e0 := hc 0 _ rfl
      rw [Nat.add_zero] at e0
      have e1 := hc 1 _ rfl
      have e2 := hc 2 _ rfl
      have e3 := hc 3 _ rfl
      have e4 := hc 4 _ rfl
      have HS := Lib.hid (sameV_eq hx hy)
      clear hc htk hx hy hr'
      have hg := guardV
      cases hq : eqV x y with
      | true =>
        have hn := fun wx => neqV x y wx
        rw [hq] at hn
        have HG := Lib.hid (all_step HK.out (by rw [HS.out]; exact hq))
        clear hq HK
        go_wp2_with fail
        go_quiet (fail)
        have hb2 : Below w.heap.size w (wr.drewN nq) := below_drewN hb nq
        clear hn hg
        go_wp2_with fail
        go_roundw
        case rel => exact ⟨k + 1, by omega, by go_num, HG, hb2⟩
        case measure => simp [intOf]; omega
      | false =>
        have hn := fun wx => neqV x y wx
        rw [hq] at hn
        have HG := Lib.hid (sameVs_bad (by rw [HL.out]; omega) (show sameV vs us k = false by rw [HS.out]; exact hq))
        clear hq HK
        go_wp2_with fail
        go_quiet (fail)
        have hb2 : Below w.heap.size w (wr.drewN nq) := below_drewN hb nq
        clear hn hg
        go_wp2_with fail
        go_ret
        exact ⟨by rw [HG.out]; rfl, hb2⟩
    · obtain rfl : k = n := by omega
      have HG := Lib.hid (sameVs_ok (vs := vs) (us := us) (by rw [HL.out, HL'.out]) (by rw [HL.out]; exact HK.out))
      clear HK
      go_wp2_with fail
      go_ret
      exact ⟨by rw [HG.out]; rfl, hb⟩

set_option maxHeartbeats 2000000 in
theorem EqualV (vs us : List Vol) (a a' : Option Addr) (n n' c c' : Nat) (w : World) (hn : n ≤ 1048576) (hn' : n' ≤ 1048576) (hl : vs.length = n) (hl' : us.length = n') (hr : Rd Vol.enc 5 w a vs) (hr' : Rd Vol.enc 5 w a' us) :
    Calls Try.prog 50 #[.slice a n c, .slice a' n' c'] w fun e w' => e = .returned (.bool (sameVs vs us)) ∧ Below w.heap.size w w' := by
  have HL := Lib.hid hl
  have HL' := Lib.hid hl'
  by_cases hnn : n = n'
  case neg =>
    have HF := Lib.hid (sameVs_len (vs := vs) (us := us) (by omega))
    have d1 : ((n : Int) == (n' : Int)) = false := by rw [beq_eq_false_iff_ne]; omega
    have d2 : ((n : Int) != (n' : Int)) = true := by rw [bne_iff_ne]; omega
    clear hl hl' hnn
    go_enter Try.func50, Try.ntmps50
    go_wp2_with fail
    go_ret
    exact ⟨by rw [HF.out]; rfl, Below.refl _ _⟩
  subst hnn
  clear hl hl'
  go_enter Try.func50, Try.ntmps50
  go_wp2_with fail
  go_loopw [13] (fun i wr => ∃ k : Nat, k ≤ n ∧ i = .int .i64 k ∧ Hid (∀ j, j < k → sameV vs us j = true) ∧ Below w.heap.size w wr) (fun i _ => n - (intOf i).toNat)
  case atStart => exact ⟨0, Nat.zero_le _, rfl, fun j hj => absurd hj (by omega), Below.refl _ _⟩
  case round =>
    obtain ⟨k, hk, rfl, HK, hb⟩ := hrel
    by_cases hlt : k < n
    · obtain ⟨x, hx, htk⟩ := take_snoc' vs k (by rw [HL.out]; omega)
      obtain ⟨b, o, rfl, hbl, hc⟩ := (hr.below hb) k x hx
      have c0 := hc 0 _ rfl
      rw [Nat.add_zero] at c0
      have c1 := hc 1 _ rfl
      have c2 := hc 2 _ rfl
      have c3 := hc 3 _ rfl
      have c4 := hc 4 _ rfl
      clear hc htk hr
      obtain ⟨y, hy, htk⟩ := take_snoc' us k (by rw [HL'.out]; omega)
      obtain ⟨b', o', rfl, hbl', hc⟩ := (hr'.below hb) k y hy
      have e0 := hc 0 _ rfl
      rw [Nat.add_zero] at e0
      have e1 := hc 1 _ rfl
      have e2 := hc 2 _ rfl
      have e3 := hc 3 _ rfl
      have e4 := hc 4 _ rfl
      have HS := Lib.hid (sameV_eq hx hy)
      clear hc htk hx hy hr'
      have hg := guardV
      cases hq : eqV x y with
      | true =>
        have hn := fun wx => neqV x y wx
        rw [hq] at hn
        have HG := Lib.hid (all_step HK.out (by rw [HS.out]; exact hq))
        clear hq HK
        go_wp2_with fail
        go_quiet (fail)
        have hb2 : Below w.heap.size w (wr.drewN nq) := below_drewN hb nq
        clear hn hg
        go_wp2_with fail
        go_roundw
        case rel => exact ⟨k + 1, by omega, by go_num, HG, hb2⟩
        case measure => simp [intOf]; omega
      | false =>
        have hn := fun wx => neqV x y wx
        rw [hq] at hn
        have HG := Lib.hid (sameVs_bad (by rw [HL.out]; omega) (show sameV vs us k = false by rw [HS.out]; exact hq))
        clear hq HK
        go_wp2_with fail
        go_quiet (fail)
        have hb2 : Below w.heap.size w (wr.drewN nq) := below_drewN hb nq
        clear hn hg
        go_wp2_with fail
        go_ret
        exact ⟨by rw [HG.out]; rfl, hb2⟩
    · obtain rfl : k = n := by omega
      have HG := Lib.hid (sameVs_ok (vs := vs) (us := us) (by rw [HL.out, HL'.out]) (by rw [HL.out]; exact HK.out))
      clear HK
      go_wp2_with fail
      go_ret
      exact ⟨by rw [HG.out]; rfl, hb⟩

theorem implSame (vs us : List Vol) (a a' : Option Addr) (n n' c c' : Nat) (w : World) (hn : n ≤ 1048576) (hn' : n' ≤ 1048576) (hl : vs.length = n) (hl' : us.length = n') (hr : Rd Vol.enc 5 w a vs) (hr' : Rd Vol.enc 5 w a' us) :
    Calls Try.prog 16 #[.slice a n c, .slice a' n' c'] w fun e w' => e = .returned (.bool (sameVs vs us)) ∧ Below w.heap.size w w' := by
  have HL := Lib.hid hl
  have HL' := Lib.hid hl'
  clear hl hl'
  go_enter Try.func16, Try.ntmps16
  go_wp2_with fail
  refine (EqualV vs us a a' n n' c c' _ hn hn' HL.out HL'.out hr hr').mono ?_
  rintro e w1 ⟨rfl, hb⟩
  go_wp2_with fail
  go_ret
  exact ⟨rfl, hb⟩
end Go.Proofs.Ytfgpfnbogpikiaa
