/-
  Lists of volumes: when one is valid, in the program and in the reference.
-/
import Derived.Test.YtnioecigjpifnaaVol1
import Derived.Deep.CutRange
import Derived.Deep.Light
namespace Go.Proofs.Ytnioecigjpifnaa
open Go.RowKit
set_option maxRecDepth 100000

def lessB (a b : ByteArray) : Bool := Op.bytesLess a.toList b.toList
def okV (vs : List Vol) (i : Nat) : Bool := volB (vs.getD i default) && (decide (i = 0) || lessB (vs.getD (i - 1) default).name (vs.getD i default).name)
def volsB (vs : List Vol) : Bool := decide (vs.length ≤ 40) && allB vs.length (okV vs)

theorem volsB_long {vs : List Vol} (h : ¬ vs.length ≤ 40) : volsB vs = false := by simp [volsB, h]
theorem volsB_bad {vs : List Vol} {i : Nat} (hi : i < vs.length) (h : okV vs i = false) : volsB vs = false := by
  have := allB_false hi h
  simp [volsB, this]
theorem volsB_ok {vs : List Vol} (h2 : vs.length ≤ 40) (h : ∀ i, i < vs.length → okV vs i = true) : volsB vs = true := by
  have := allB_true h
  simp [volsB, this, h2]
theorem getD_of {α : Type} {xs : List α} {d : α} {i : Nat} {x : α} (h : xs[i]? = some x) : xs.getD i d = x := by simp [List.getD, h]
theorem okV_0 {vs : List Vol} {x : Vol} (hx : vs[0]? = some x) : okV vs 0 = volB x := by simp [okV, hx]
theorem okV_k {vs : List Vol} {k : Nat} {x y : Vol} (hk : k ≠ 0) (hx : vs[k]? = some x) (hy : vs[k - 1]? = some y) : okV vs k = (volB x && lessB y.name x.name) := by
  simp [okV, hx, hy, hk]
theorem okV_bad {vs : List Vol} {k : Nat} {x : Vol} (hx : vs[k]? = some x) (h : volB x = false) : okV vs k = false := by
  simp [okV, hx, h]
theorem l23One_lit (v : Vol) (r : Bool) (b o : Nat) (w : World) (hs : v.name.size ≤ 9223372036854775807)
  (c0 : w.cell? ⟨b, o, none⟩ = some (.string v.name)) (c1 : w.cell? ⟨b, o + 1, none⟩ = some (.int .i64 v.frm)) (c2 : w.cell? ⟨b, o + 2, none⟩ = some (.int .i64 v.til)) (c3 : w.cell? ⟨b, o + 3, none⟩ = some (.int .i64 v.cnt)) (c4 : w.cell? ⟨b, o + 4, none⟩ = some (.int .i64 v.cop)) (h : volB v = r) :
    Calls Try.prog 67 #[.pointer (some ⟨b, o, none⟩)] w fun e w' => e = .returned (.bool r) ∧ ∃ m, w' = w.drewN m := by
  subst h; exact l23One_any v b o w hs c0 c1 c2 c3 c4
theorem okSize {s : ByteArray} (h : s.size ≤ maxLen) : s.size ≤ 9223372036854775807 := by unfold maxLen at h; omega

set_option maxHeartbeats 2000000 in
theorem l23Ok_any (vs : List Vol) (a : Option Addr) (n cap : Nat) (w : World) (hn : n ≤ 1048576) (hl : vs.length = n) (ho : ∀ v ∈ vs, Vol.Ok v) (hr : Rd Vol.enc 5 w a vs) :
    Calls Try.prog 49 #[.slice a n cap] w fun e w' => e = .returned (.bool (volsB vs)) ∧ Below w.heap.size w w' := by
  go_enter Try.func49, Try.ntmps49
  go_wp2_with fail
  go_loopw [3] (fun i wr => ∃ k : Nat, k ≤ n ∧ i = .int .i64 k ∧ Hid (∀ i, i < k → okV vs i = true) ∧ Below w.heap.size w wr) (fun i _ => n - (intOf i).toNat)
  case atStart => exact ⟨0, Nat.zero_le _, rfl, fun i hi => absurd hi (by omega), Below.refl _ _⟩
  case round =>
    obtain ⟨k, hk, rfl, HK, hb⟩ := hrel
    by_cases hlt : k < n
    · obtain ⟨x, hx, htk⟩ := take_snoc' vs k (by omega)
      obtain ⟨b, o, rfl, hbl, hc⟩ := hr.below hb k x hx
      have hnm := okSize (ho x (List.mem_of_getElem? hx)).1
      have c0 := hc 0 _ rfl
      rw [Nat.add_zero] at c0
      have c1 := hc 1 _ rfl
      have c2 := hc 2 _ rfl
      have c3 := hc 3 _ rfl
      have c4 := hc 4 _ rfl
      clear hc htk
      cases hv : volB x with
      | false =>
        have HB := Lib.hid (volsB_bad (by omega) (okV_bad hx hv))
        clear hl ho hr hx
        go_wp2_with fail
        go_quiet ((go_at_call 67; exact quiet_drew (l23One_lit x false b (o + k * 5) _ hnm (by simpa using c0) (by simpa using c1) (by simpa using c2) (by simpa using c3) (by simpa using c4) hv)))
        have hb2 : Below w.heap.size w (wr.drewN nq) := below_drewN hb nq
        go_wp2_with fail
        go_ret
        exact ⟨by rw [HB.out]; rfl, hb2⟩
      | true =>
        by_cases hk0 : k = 0
        · subst hk0
          have HG := Lib.hid (okV_0 hx)
          clear hl ho hr hx
          have d1 : decide ((0 : Int) < ((0 : Nat) : Int)) = false := by simp
          simp only [Nat.zero_mul, Nat.add_zero] at c0 c1 c2 c3 c4
          go_wp2_with fail
          go_quiet ((go_at_call 67; exact quiet_drew (l23One_lit x true b o _ hnm (by simpa using c0) (by simpa using c1) (by simpa using c2) (by simpa using c3) (by simpa using c4) hv)))
          have hb2 : Below w.heap.size w (wr.drewN nq) := below_drewN hb nq
          go_wp2_with fail
          go_roundw
          case rel => exact ⟨0 + 1, by omega, by go_num, all_step HK.out (by rw [HG.out]; exact hv), hb2⟩
          case measure => simp [intOf]; omega
        · obtain ⟨y, hy, _⟩ := take_snoc' vs (k - 1) (by omega)
          obtain ⟨b', o', he, _, hc⟩ := hr.below hb (k - 1) y hy
          simp only [Option.some.injEq, Addr.mk.injEq, and_true] at he
          obtain ⟨rfl, rfl⟩ := he
          have e0 := hc 0 _ rfl
          rw [Nat.add_zero] at e0
          clear hc
          have HG := Lib.hid (okV_k hk0 hx hy)
          have HB : Hid (okV vs k = false → volsB vs = false) := Lib.hid (fun h => volsB_bad (by omega) h)
          clear hl ho hr hx hy
          have hk1 : 1 ≤ k := by omega
          have d1 : decide (0 < k) = true := by simp; omega
          have d2 : (0 : Int) ≤ (k : Int) - 1 := by omega
          have d3 : (k : Int) - 1 < (n : Int) := by omega
          have d4 : ((k : Int) - 1).toNat = k - 1 := by omega
          have d5 : (k : Int) < (n : Int) := by omega
          have d6 : IntKind.i64.wrap ((k : Int) - 1) = (k : Int) - 1 := IntWalk.i64_in _ (by omega)
          cases hlb : Op.bytesLess y.name.toList x.name.toList with
          | true =>
            go_wp2_with fail
            go_quiet ((go_at_call 67; exact quiet_drew (l23One_lit x true b (o + k * 5) _ hnm (by simpa using c0) (by simpa using c1) (by simpa using c2) (by simpa using c3) (by simpa using c4) hv)))
            have hb2 : Below w.heap.size w (wr.drewN nq) := below_drewN hb nq
            clear d1 d2 d3 d4 d5 d6
            go_wp2_with fail
            go_roundw
            case rel => exact ⟨k + 1, by omega, by go_num, all_step HK.out (by rw [HG.out, hv]; exact hlb), hb2⟩
            case measure => simp [intOf]; omega
          | false =>
            go_wp2_with fail
            go_quiet ((go_at_call 67; exact quiet_drew (l23One_lit x true b (o + k * 5) _ hnm (by simpa using c0) (by simpa using c1) (by simpa using c2) (by simpa using c3) (by simpa using c4) hv)))
            have hb2 : Below w.heap.size w (wr.drewN nq) := below_drewN hb nq
            clear d1 d2 d3 d4 d5 d6
            go_wp2_with fail
            go_ret
            exact ⟨by rw [HB.out (by rw [HG.out, hv]; exact hlb)]; rfl, hb2⟩
    · have hkn : k = n := by omega
      subst hkn
      by_cases h40 : k ≤ 40
      · have HF := Lib.hid (volsB_ok (vs := vs) (by omega) (by rw [hl]; exact HK.out))
        have h40' : decide ((k : Int) ≤ 40) = true := by simp; omega
        clear hl ho hr
        go_wp2_with fail
        go_ret
        exact ⟨by rw [HF.out]; rfl, hb⟩
      · have HF := Lib.hid (volsB_long (vs := vs) (by omega))
        have h40' : decide ((k : Int) ≤ 40) = false := by simp; omega
        clear hl ho hr
        go_wp2_with fail
        go_ret
        exact ⟨by rw [HF.out]; rfl, hb⟩

end Go.Proofs.Ytnioecigjpifnaa
