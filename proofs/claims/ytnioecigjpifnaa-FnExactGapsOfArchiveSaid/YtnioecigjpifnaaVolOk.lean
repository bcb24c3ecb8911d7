/-
  The validity of volumes as literal answers.
-/
import Derived.Test.YtnioecigjpifnaaVol3
namespace Go.Proofs.Ytnioecigjpifnaa
open Go.RowKit
set_option maxRecDepth 100000

theorem l23Ok_lit (vs : List Vol) (r : Bool) (a : Option Addr) (n cap : Nat) (w : World) (hn : n ≤ 1048576) (hl : vs.length = n) (ho : ∀ v ∈ vs, Vol.Ok v) (hr : Rd Vol.enc 5 w a vs) (h : volsB vs = r) :
    Calls Try.prog 49 #[.slice a n cap] w fun e w' => e = .returned (.bool r) ∧ Below w.heap.size w w' := by
  subst h; exact l23Ok_any vs a n cap w hn hl ho hr
set_option maxHeartbeats 1000000 in
theorem validV_lit (vs : List Vol) (r : Bool) (a : Option Addr) (n cap : Nat) (w : World) (hn : n ≤ 1048576) (hl : vs.length = n) (ho : ∀ v ∈ vs, Vol.Ok v) (hr : Rd Vol.enc 5 w a vs) (h : volsB vs = r) :
    Calls Try.prog 52 #[.slice a n cap] w fun e w' => e = .returned (.bool r) ∧ Below w.heap.size w w' := by
  subst h
  have HL := Lib.hid hl
  have HO := Lib.hid ho
  clear hl ho
  go_enter Try.func52, Try.ntmps52
  go_wp2_with fail
  refine (rising_any vs a n cap _ hn HL.out HO.out hr).mono ?_
  rintro e w1 ⟨rfl, hb⟩
  go_wp2_with fail
  go_ret
  exact ⟨rfl, hb⟩
theorem volsB_len {vs : List Vol} (h : volsB vs = true) : vs.length ≤ 40 := by
  unfold volsB at h
  simp at h
  exact h.1

theorem volB_cop {x : Vol} (h : volB x = true) : 0 ≤ x.cop ∧ x.cop ≤ 5 := by
  simp only [volB, Bool.and_eq_true] at h
  exact inB_iff.1 h.2.2.2.2
theorem volsB_at {vs : List Vol} {i : Nat} {x : Vol} (h : volsB vs = true) (hx : vs[i]? = some x) : volB x = true := by
  have hi := (List.getElem?_eq_some_iff.1 hx).1
  cases hv : volB x with
  | true => rfl
  | false => rw [volsB_bad hi (okV_bad hx hv)] at h; cases h

end Go.Proofs.Ytnioecigjpifnaa
