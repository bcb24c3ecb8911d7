/-
  PlanSlots: the request that comes first at each slot.
-/
import Derived.Test.YtababgnlogfphaaReq4
import Derived.Test.YtababgnlogfphaaTimes
namespace Go.Proofs.Ytababgnlogfphaa
open Go.RowKit
set_option maxRecDepth 100000

def befR (x y : Req) : Bool := if x.prio = y.prio then decide (x.til < y.til) else decide (y.prio < x.prio)
theorem befR_gt {x y : Req} (h : y.prio < x.prio) : befR x y = true := by
  unfold befR; rw [if_neg (show ¬ x.prio = y.prio by omega)]; simpa using h
theorem befR_lt {x y : Req} (h : ¬ x.prio = y.prio) (h2 : decide (y.prio < x.prio) = false) : befR x y = false := by
  unfold befR; rw [if_neg h, h2]
theorem befR_eq {x y : Req} (h : x.prio = y.prio) : befR x y = decide (x.til < y.til) := by
  unfold befR; rw [if_pos h]
theorem l22Open_lit (x : Req) (t : Int) (r : Bool) (b o : Nat) (w : World) (c1 : w.cell? ⟨b, o + 1, none⟩ = some (.int .i64 x.frm)) (c2 : w.cell? ⟨b, o + 2, none⟩ = some (.int .i64 x.til)) (c3 : w.cell? ⟨b, o + 3, none⟩ = some (.int .i64 x.want)) (c4 : w.cell? ⟨b, o + 4, none⟩ = some (.int .i64 x.done)) (h : opnB x t = r) :
    Calls Try.prog 39 #[.pointer (some ⟨b, o, none⟩), .int .i64 t] w fun e w' => e = .returned (.bool r) ∧ ∃ m, w' = w.drewN m := by subst h; exact l22Open_any x t b o w c1 c2 c3 c4
theorem l22Before_any (x y : Req) (b o b' o' : Nat) (w : World) (cx2 : w.cell? ⟨b, o + 2, none⟩ = some (.int .i64 x.til)) (cx5 : w.cell? ⟨b, o + 5, none⟩ = some (.int .i64 x.prio)) (cy2 : w.cell? ⟨b', o' + 2, none⟩ = some (.int .i64 y.til)) (cy5 : w.cell? ⟨b', o' + 5, none⟩ = some (.int .i64 y.prio)) :
    Calls Try.prog 69 #[.pointer (some ⟨b, o, none⟩), .pointer (some ⟨b', o', none⟩)] w fun e w' => e = .returned (.bool (befR x y)) ∧ ∃ m, w' = w.drewN m := by
  by_cases h : x.prio = y.prio
  · have hv : befR x y = decide (x.til < y.til) := by simp only [befR, if_pos h]
    have d1 : (x.prio != y.prio) = false := by rw [bne_eq_false_iff_eq]; exact h
    rw [hv]
    clear hv h
    go_enter Try.func69, Try.ntmps69
    go_wp2_with fail
    go_quiet (fail)
    go_wp2_with fail
    go_quiet (fail)
    go_wp2_with fail
    go_ret
    exact ⟨rfl, by repeat (first | exact ⟨_, rfl⟩ | (simp only [World.drewN_drewN]; exact ⟨_, rfl⟩))⟩
  · have hv : befR x y = decide (y.prio < x.prio) := by simp only [befR, if_neg h]
    have d1 : (x.prio != y.prio) = true := by rw [bne_iff_ne]; exact h
    rw [hv]
    clear hv h
    go_enter Try.func69, Try.ntmps69
    go_wp2_with fail
    go_quiet (fail)
    go_wp2_with fail
    go_quiet (fail)
    go_wp2_with fail
    go_ret
    exact ⟨rfl, by repeat (first | exact ⟨_, rfl⟩ | (simp only [World.drewN_drewN]; exact ⟨_, rfl⟩))⟩
theorem l22Before_lit (x y : Req) (r : Bool) (b o b' o' : Nat) (w : World) (cx2 : w.cell? ⟨b, o + 2, none⟩ = some (.int .i64 x.til)) (cx5 : w.cell? ⟨b, o + 5, none⟩ = some (.int .i64 x.prio)) (cy2 : w.cell? ⟨b', o' + 2, none⟩ = some (.int .i64 y.til)) (cy5 : w.cell? ⟨b', o' + 5, none⟩ = some (.int .i64 y.prio)) (h : befR x y = r) :
    Calls Try.prog 69 #[.pointer (some ⟨b, o, none⟩), .pointer (some ⟨b', o', none⟩)] w fun e w' => e = .returned (.bool r) ∧ ∃ m, w' = w.drewN m := by subst h; exact l22Before_any x y b o b' o' w cx2 cx5 cy2 cy5

def nxtBet (rs : List Req) (best : Option Nat) (x : Req) : Bool := match best with
  | none => true
  | some j => match rs[j]? with | some y => befR x y | none => false
def nxtStep (rs : List Req) (t : Int) (x : Req) (k : Nat) (best : Option Nat) : Option Nat := if (opnB x t && nxtBet rs best x) = true then some k else best
def nxtK (rs : List Req) (t : Int) : Nat → Option Nat
  | 0 => none
  | k + 1 => match rs[k]? with | some x => nxtStep rs t x k (nxtK rs t k) | none => nxtK rs t k
theorem nxt_step {rs : List Req} {t : Int} {k : Nat} {x : Req} (h : rs[k]? = some x) : nxtK rs t (k + 1) = nxtStep rs t x k (nxtK rs t k) := by simp [nxtK, h]
theorem nxt_some {rs : List Req} {t : Int} : ∀ {k j : Nat}, nxtK rs t k = some j → j < k ∧ ∃ y, rs[j]? = some y ∧ opnB y t = true
  | 0, j, h => by simp [nxtK] at h
  | k + 1, j, h => by
    cases hx : rs[k]? with
    | none =>
      have : nxtK rs t (k + 1) = nxtK rs t k := by simp [nxtK, hx]
      rw [this] at h
      obtain ⟨h1, h2⟩ := nxt_some h
      exact ⟨by omega, h2⟩
    | some x =>
      rw [nxt_step hx] at h
      unfold nxtStep at h
      split at h
      case isTrue hc =>
        simp only [Bool.and_eq_true] at hc
        obtain rfl : k = j := by simpa using h
        exact ⟨by omega, x, hx, hc.1⟩
      case isFalse =>
        obtain ⟨h1, h2⟩ := nxt_some h
        exact ⟨by omega, h2⟩
def nxtV (rs : List Req) (t : Int) : Option Nat := nxtK rs t rs.length

set_option maxHeartbeats 4000000 in
theorem l22Next_any (rs : List Req) (t : Int) (a : Option Addr) (n c : Nat) (w : World) (hn : n ≤ 1048576) (hl : rs.length = n) (hr : Rd Req.enc 6 w a rs) :
    Calls Try.prog 52 #[.slice a n c, .int .i64 t] w fun e w' => e = .returned (.int .i64 (findZ (nxtV rs t))) ∧ Below w.heap.size w w' := by
  have HL := Lib.hid hl
  clear hl
  go_enter Try.func52, Try.ntmps52
  go_wp2_with fail
  go_loopw [5, 6] (fun m i wr => ∃ k : Nat, k ≤ n ∧ i = .int .i64 k ∧ m = .int .i64 (findZ (nxtK rs t k)) ∧ Below w.heap.size w wr) (fun _ i _ => n - (intOf i).toNat)
  case atStart => exact ⟨0, Nat.zero_le _, rfl, rfl, Below.refl _ _⟩
  case round =>
    obtain ⟨k, hk, rfl, rfl, hb⟩ := hrel
    by_cases hlt : k < n
    · obtain ⟨x, hx, htk⟩ := take_snoc' rs k (by rw [HL.out]; omega)
      obtain ⟨b, o, rfl, hbl, hc⟩ := (hr.below hb) k x hx
      have HC := Lib.hid hc
      have HS := Lib.hid (nxt_step (t := t) hx)
      have c1 := hc 1 _ rfl
      have c2 := hc 2 _ rfl
      have c3 := hc 3 _ rfl
      have c4 := hc 4 _ rfl
      have c5 := hc 5 _ rfl
      clear hc htk hx
      obtain ⟨B, hB⟩ : ∃ B, nxtK rs t k = B := ⟨_, rfl⟩
      have HB := Lib.hid hB
      rw [hB] at HS ⊢
      clear hB
      cases hT : opnB x t with
      | false =>
        have HN : Hid (nxtK rs t (k + 1) = B) := Lib.hid (by rw [HS.out]; simp [nxtStep, hT])
        have HT := Lib.hid hT
        clear hr hT
        obtain ⟨z, hz⟩ : ∃ z, findZ B = z := ⟨_, rfl⟩
        rw [hz]
        have HZ := Lib.hid hz
        clear hz
        go_wp2_with fail
        go_quiet ((go_at_call 39; exact quiet_drew (l22Open_lit x t false b (o + k * 6) _ (by simpa using c1) (by simpa using c2) (by simpa using c3) (by simpa using c4) HT.out)))
        have hb2 : Below w.heap.size w (wr.drewN nq) := below_drewN hb nq
        go_wp2_with fail
        go_roundw
        case rel => exact ⟨k + 1, by omega, by go_num, by rw [HN.out]; first | rfl | (rw [← HZ.out]; rfl) | rw [← HZ.out], hb2⟩
        case measure => simp [intOf]; omega
      | true =>
        have HT := Lib.hid hT
        cases B with
        | none =>
          have HN : Hid (nxtK rs t (k + 1) = some k) := Lib.hid (by rw [HS.out]; simp [nxtStep, hT, nxtBet])
          have HZ : Hid ((k : Int) = findZ (some k)) := Lib.hid rfl
          clear hr hT
          rw [show findZ none = -1 from rfl]
          go_wp2_with fail
          go_quiet ((go_at_call 39; exact quiet_drew (l22Open_lit x t true b (o + k * 6) _ (by simpa using c1) (by simpa using c2) (by simpa using c3) (by simpa using c4) HT.out)))
          have hb2 : Below w.heap.size w (wr.drewN nq) := below_drewN hb nq
          go_wp2_with fail
          go_roundw
          case rel => exact ⟨k + 1, by omega, by go_num, by rw [HN.out]; first | rfl | (rw [← HZ.out]; rfl) | rw [← HZ.out], hb2⟩
          case measure => simp [intOf]; omega
        | some j =>
          obtain ⟨hj1, y, hy, _⟩ := nxt_some HB.out
          obtain ⟨b', o', he, hbl', hc⟩ := (hr.below hb) j y hy
          simp only [Option.some.injEq, Addr.mk.injEq, and_true] at he
          obtain ⟨rfl, rfl⟩ := he
          have e2 := hc 2 _ rfl
          have e5 := hc 5 _ rfl
          have d0 : decide ((j : Int) < 0) = false := by simp
          have d3 : (j : Int) < (n : Int) := by omega
          rw [show findZ (some j) = (j : Int) from rfl]
          cases hg : befR x y with
          | true =>
            have HN : Hid (nxtK rs t (k + 1) = some k) := Lib.hid (by rw [HS.out]; simp [nxtStep, hT, nxtBet, hy, hg])
            have HZ : Hid ((k : Int) = findZ (some k)) := Lib.hid rfl
            have HG := Lib.hid hg
            clear hr hT hc hy hg
            go_wp2_with fail
            go_quiet ((first | (go_at_call 39; exact quiet_drew (l22Open_lit x t true b (o + k * 6) _ (by simpa using c1) (by simpa using c2) (by simpa using c3) (by simpa using c4) HT.out)) | (go_at_call 69; exact quiet_drew (l22Before_lit x y true b (o + k * 6) b (o + j * 6) _ (by simpa using c2) (by simpa using c5) (by simpa using e2) (by simpa using e5) HG.out))))
            have hb2 : Below w.heap.size w (wr.drewN nq) := below_drewN hb nq
            go_wp2_with fail
            go_roundw
            case rel => exact ⟨k + 1, by omega, by go_num, by rw [HN.out]; first | rfl | (rw [← HZ.out]; rfl) | rw [← HZ.out], hb2⟩
            case measure => simp [intOf]; omega
          | false =>
            have HN : Hid (nxtK rs t (k + 1) = some j) := Lib.hid (by rw [HS.out]; simp [nxtStep, hT, nxtBet, hy, hg])
            have HZ : Hid ((j : Int) = findZ (some j)) := Lib.hid rfl
            have HG := Lib.hid hg
            clear hr hT hc hy hg
            go_wp2_with fail
            go_quiet ((first | (go_at_call 39; exact quiet_drew (l22Open_lit x t true b (o + k * 6) _ (by simpa using c1) (by simpa using c2) (by simpa using c3) (by simpa using c4) HT.out)) | (go_at_call 69; exact quiet_drew (l22Before_lit x y false b (o + k * 6) b (o + j * 6) _ (by simpa using c2) (by simpa using c5) (by simpa using e2) (by simpa using e5) HG.out))))
            have hb2 : Below w.heap.size w (wr.drewN nq) := below_drewN hb nq
            go_wp2_with fail
            go_roundw
            case rel => exact ⟨k + 1, by omega, by go_num, by rw [HN.out]; first | rfl | (rw [← HZ.out]; rfl) | rw [← HZ.out], hb2⟩
            case measure => simp [intOf]; omega
    · obtain rfl : k = n := by omega
      go_wp2_with fail
      go_ret
      exact ⟨by rw [nxtV, HL.out]; rfl, hb⟩

set_option maxHeartbeats 4000000 in
theorem next_any (rs : List Req) (t : Int) (a : Option Addr) (n c : Nat) (w : World) (hn : n ≤ 1048576) (hl : rs.length = n) (hr : Rd Req.enc 6 w a rs) :
    Calls Try.prog 54 #[.slice a n c, .int .i64 t] w fun e w' => e = .returned (.int .i64 (findZ (nxtV rs t))) ∧ Below w.heap.size w w' := by
  have HL := Lib.hid hl
  clear hl
  go_enter Try.func54, Try.ntmps54
  go_wp2_with fail
  go_loopw [5, 10] (fun m i wr => ∃ k : Nat, k ≤ n ∧ i = .int .i64 k ∧ m = .int .i64 (findZ (nxtK rs t k)) ∧ Below w.heap.size w wr) (fun _ i _ => n - (intOf i).toNat)
  case atStart => exact ⟨0, Nat.zero_le _, rfl, rfl, Below.refl _ _⟩
  case round =>
    obtain ⟨k, hk, rfl, rfl, hb⟩ := hrel
    by_cases hlt : k < n
    · obtain ⟨x, hx, htk⟩ := take_snoc' rs k (by rw [HL.out]; omega)
      obtain ⟨b, o, rfl, hbl, hc⟩ := (hr.below hb) k x hx
      have HS := Lib.hid (nxt_step (t := t) hx)
      have c0 := hc 0 _ rfl
      rw [Nat.add_zero] at c0
      have c1 := hc 1 _ rfl
      have c2 := hc 2 _ rfl
      have c3 := hc 3 _ rfl
      have c4 := hc 4 _ rfl
      have c5 := hc 5 _ rfl
      obtain ⟨n0, n1, n2, n3, n4, n5, hba⟩ := reqNew wr x
      have HBA := Lib.hid hba
      have HNS : Hid (wr.heap.size < (wr.alloc (.cells #[.string x.star, .int .i64 x.frm, .int .i64 x.til, .int .i64 x.want, .int .i64 x.done, .int .i64 x.prio] 53)).heap.size) := Lib.hid (by simp)
      have HN2 := Lib.hid n2
      have HN5 := Lib.hid n5
      clear hc htk hx hba
      obtain ⟨B, hB⟩ : ∃ B, nxtK rs t k = B := ⟨_, rfl⟩
      have HB := Lib.hid hB
      rw [hB] at HS ⊢
      clear hB
      obtain ⟨z, hz⟩ : ∃ z, findZ B = z := ⟨_, rfl⟩
      rw [hz]
      have HZ0 := Lib.hid hz
      clear hz
      go_wp2_with fail
      refine (reqOpen_any x t _).mono ?_
      rintro e w1 ⟨rfl, hb1⟩
      have hb2 := hb.trans ((HBA.out.trans (hb1.mono (Nat.le_of_lt HNS.out))).mono hb.size)
      have m2 := (hb1.cell (p := ⟨wr.heap.size, 2, none⟩) HNS.out).trans HN2.out
      have m5 := (hb1.cell (p := ⟨wr.heap.size, 5, none⟩) HNS.out).trans HN5.out
      have hr1 := hr.below hb2
      clear n0 n1 n2 n3 n4 n5 c0 c1 c2 c3 c4 c5 hb1 hr hb hbl
      cases hT : opnB x t with
      | false =>
        have HN : Hid (nxtK rs t (k + 1) = B) := Lib.hid (by rw [HS.out]; simp [nxtStep, hT])
        clear hr1 hT m2 m5
        go_wp2_with fail
        go_roundw
        case rel => exact ⟨k + 1, by omega, by go_num, by rw [HN.out, HZ0.out], hb2⟩
        case measure => simp [intOf]; omega
      | true =>
        have hz := HZ0.out
        cases B with
        | none =>
          have HN : Hid (nxtK rs t (k + 1) = some k) := Lib.hid (by rw [HS.out]; simp [nxtStep, hT, nxtBet])
          have HZ : Hid ((k : Int) = findZ (some k)) := Lib.hid rfl
          clear hr1 hT HZ0
          rw [show findZ none = -1 from rfl] at hz
          subst hz
          go_wp2_with fail
          go_quiet (fail)
          have hb3 : Below w.heap.size w (w1.drewN nq) := below_drewN hb2 nq
          go_wp2_with fail
          go_roundw
          case rel => exact ⟨k + 1, by omega, by go_num, by rw [HN.out]; first | rfl | (rw [← HZ.out]; rfl) | rw [← HZ.out], hb3⟩
          case measure => simp [intOf]; omega
        | some j =>
          obtain ⟨hj1, y, hy, _⟩ := nxt_some HB.out
          obtain ⟨b', o', he, hbl', hc⟩ := hr1 j y hy
          simp only [Option.some.injEq, Addr.mk.injEq, and_true] at he
          obtain ⟨rfl, rfl⟩ := he
          have e2 := hc 2 _ rfl
          have e5 := hc 5 _ rfl
          have d0 : decide ((j : Int) < 0) = false := by simp
          have d3 : (j : Int) < (n : Int) := by omega
          rw [show findZ (some j) = (j : Int) from rfl] at hz
          subst hz
          clear HZ0
          have HNX : Hid (nxtK rs t (k + 1) = if befR x y = true then some k else some j) := Lib.hid (by rw [HS.out]; simp [nxtStep, hT, nxtBet, hy])
          have HZk : Hid ((k : Int) = findZ (some k)) := Lib.hid rfl
          have HZj : Hid ((j : Int) = findZ (some j)) := Lib.hid rfl
          clear hr1 hT hc hy
          by_cases g1 : y.prio < x.prio
          · have q1 : decide (y.prio < x.prio) = true := by simpa using g1
            have HN : Hid (nxtK rs t (k + 1) = some k) := Lib.hid (by rw [HNX.out, befR_gt g1]; rfl)
            go_wp2_with fail
            go_quiet (fail)
            have hb3 : Below w.heap.size w (w1.drewN nq) := below_drewN hb2 nq
            go_wp2_with fail
            go_roundw
            case rel => exact ⟨k + 1, by omega, by go_num, by rw [HN.out]; first | rfl | (rw [← HZk.out]; rfl) | rw [← HZk.out], hb3⟩
            case measure => simp [intOf]; omega
          have q1 : decide (y.prio < x.prio) = false := by simpa using g1
          by_cases g2 : x.prio = y.prio
          case neg =>
            have q2 : (x.prio == y.prio) = false := by rw [beq_eq_false_iff_ne]; exact g2
            have HN : Hid (nxtK rs t (k + 1) = some j) := Lib.hid (by rw [HNX.out, befR_lt g2 q1]; rfl)
            clear g1 g2
            go_wp2_with fail
            go_quiet (fail)
            have hb3 : Below w.heap.size w (w1.drewN nq) := below_drewN hb2 nq
            go_wp2_with fail
            go_roundw
            case rel => exact ⟨k + 1, by omega, by go_num, by rw [HN.out]; first | rfl | (rw [← HZj.out]; rfl) | rw [← HZj.out], hb3⟩
            case measure => simp [intOf]; omega
          have q2 : (x.prio == y.prio) = true := by rw [beq_iff_eq]; exact g2
          by_cases g3 : x.til < y.til
          · have q3 : decide (x.til < y.til) = true := by simpa using g3
            have HN : Hid (nxtK rs t (k + 1) = some k) := Lib.hid (by rw [HNX.out, befR_eq g2, q3]; rfl)
            clear g1 g2 g3
            go_wp2_with fail
            go_quiet (fail)
            have hb3 : Below w.heap.size w (w1.drewN nq) := below_drewN hb2 nq
            go_wp2_with fail
            go_roundw
            case rel => exact ⟨k + 1, by omega, by go_num, by rw [HN.out]; first | rfl | (rw [← HZk.out]; rfl) | rw [← HZk.out], hb3⟩
            case measure => simp [intOf]; omega
          · have q3 : decide (x.til < y.til) = false := by simpa using g3
            have HN : Hid (nxtK rs t (k + 1) = some j) := Lib.hid (by rw [HNX.out, befR_eq g2, q3]; rfl)
            clear g1 g2 g3
            go_wp2_with fail
            go_quiet (fail)
            have hb3 : Below w.heap.size w (w1.drewN nq) := below_drewN hb2 nq
            go_wp2_with fail
            go_roundw
            case rel => exact ⟨k + 1, by omega, by go_num, by rw [HN.out]; first | rfl | (rw [← HZj.out]; rfl) | rw [← HZj.out], hb3⟩
            case measure => simp [intOf]; omega
    · obtain rfl : k = n := by omega
      go_wp2_with fail
      go_ret
      exact ⟨by rw [nxtV, HL.out]; rfl, hb⟩
end Go.Proofs.Ytababgnlogfphaa
