/-
  The place of a volume by its name, and the volumes with one more copy or one fewer.
-/
import Derived.Test.YtgdcefdncjmnkaaVol3
import Derived.Test.YtgdcefdncjmnkaaCopy
namespace Go.Proofs.Ytgdcefdncjmnkaa
open Go.RowKit
set_option maxRecDepth 100000
def atP (vs : List Vol) (f : Vol → Bool) (i : Nat) : Bool := match vs[i]? with | some x => f x | none => false
theorem atP_eq {vs : List Vol} {f : Vol → Bool} {i : Nat} {x : Vol} (h : vs[i]? = some x) : atP vs f i = f x := by simp [atP, h]

def firstI (n : Nat) (p : Nat → Bool) : Option Nat := (List.range n).find? p
theorem firstI_some {n k : Nat} {p : Nat → Bool} (h : ∀ j, j < k → p j = false) (hk : k < n) (hp : p k = true) : firstI n p = some k := by
  unfold firstI
  rw [List.find?_range_eq_some]
  exact ⟨hp, by simpa using hk, fun j hj => by simp [h j hj]⟩
theorem firstI_none {n : Nat} {p : Nat → Bool} (h : ∀ j, j < n → p j = false) : firstI n p = none := by
  unfold firstI
  rw [List.find?_range_eq_none]
  exact fun j hj => by simp [h j hj]
theorem firstI_lt {n k : Nat} {p : Nat → Bool} (h : firstI n p = some k) : k < n := by
  unfold firstI at h
  rw [List.find?_range_eq_some] at h
  simpa using h.2.1
theorem no_step {p : Nat → Bool} {k : Nat} (h : ∀ i, i < k → p i = false) (hk : p k = false) : ∀ i, i < k + 1 → p i = false := by
  intro i hi
  by_cases hik : i < k
  · exact h i hik
  · obtain rfl : i = k := by omega
    exact hk
def findZ : Option Nat → Int
  | some i => i
  | none => -1
def nmP (vs : List Vol) (s : ByteArray) : Nat → Bool := atP vs fun x => x.name.toList == s.toList

set_option maxHeartbeats 2000000 in
theorem l23Find_any (vs : List Vol) (s : ByteArray) (a : Option Addr) (n c : Nat) (w : World) (hn : n ≤ 1048576) (hl : vs.length = n) (hr : Rd Vol.enc 5 w a vs) :
    Calls Try.prog 21 #[.slice a n c, .string s] w fun e w' => e = .returned (.int .i64 (findZ (firstI n (nmP vs s)))) ∧ Below w.heap.size w w' := by
  have HL := Lib.hid hl
  clear hl
  go_enter Try.func21, Try.ntmps21
  go_wp2_with fail
  go_loopw [5] (fun i wr => ∃ k : Nat, k ≤ n ∧ i = .int .i64 k ∧ Hid (∀ j, j < k → nmP vs s j = false) ∧ w = wr) (fun i _ => n - (intOf i).toNat)
  case atStart => exact ⟨0, Nat.zero_le _, rfl, fun j hj => absurd hj (by omega), rfl⟩
  case round =>
    obtain ⟨k, hk, rfl, HK, rfl⟩ := hrel
    by_cases hlt : k < n
    · obtain ⟨x, hx, htk⟩ := take_snoc' vs k (by rw [HL.out]; omega)
      obtain ⟨b, o, rfl, hbl, hc⟩ := hr k x hx
      have c0 := hc 0 _ rfl
      rw [Nat.add_zero] at c0
      have HP : Hid (nmP vs s k = (x.name.toList == s.toList)) := Lib.hid (atP_eq hx)
      clear hc htk hx hr
      cases d1 : (x.name.toList == s.toList) with
      | true =>
        have HF := Lib.hid (firstI_some HK.out hlt (by rw [HP.out]; exact d1))
        clear HK
        go_wp2_with fail
        go_ret
        exact ⟨by rw [HF.out]; rfl, Below.refl _ _⟩
      | false =>
        have HF := Lib.hid (no_step HK.out (by rw [HP.out]; exact d1))
        clear HK
        go_wp2_with fail
        go_roundw
        case rel => exact ⟨k + 1, by omega, by go_num, HF, trivial⟩
        case measure => simp [intOf]; omega
    · obtain rfl : k = n := by omega
      have HF := Lib.hid (firstI_none HK.out)
      clear HK
      go_wp2_with fail
      go_ret
      exact ⟨by rw [HF.out]; rfl, Below.refl _ _⟩

set_option maxHeartbeats 2000000 in
theorem IndexFuncV_any (vs : List Vol) (p : Nat → Bool) (f : FuncId) (cs : Array Value) (a : Option Addr) (n c : Nat) (w : World) (hn : n ≤ 1048576) (hl : vs.length = n) (hr : Rd Vol.enc 5 w a vs)
    (hcf : ∀ (args : Array Value) (wx : World), (callFunc f args).run Try.prog wx = .ok (.enter f args) wx)
    (hf : ∀ (i : Nat) (x : Vol) (w' : World), vs[i]? = some x → Below w.heap.size w w' → Calls Try.prog f (#[.agg #[.string x.name, .int .i64 x.frm, .int .i64 x.til, .int .i64 x.cnt, .int .i64 x.cop]] ++ cs) w' fun e w'' => e = .returned (.bool (p i)) ∧ Below w'.heap.size w' w'') :
    Calls Try.prog 51 #[.slice a n c, .func (.func f) #[] cs] w fun e w' => e = .returned (.int .i64 (findZ (firstI n p))) ∧ Below w.heap.size w w' := by
  have HL := Lib.hid hl
  have HF := Lib.hid hf
  clear hl hf
  go_enter Try.func51, Try.ntmps51
  go_wp2_with fail
  go_loopw [8] (fun i wr => ∃ k : Nat, k ≤ n ∧ i = .int .i64 k ∧ Hid (∀ j, j < k → p j = false) ∧ Below w.heap.size w wr) (fun i _ => n - (intOf i).toNat)
  case atStart => exact ⟨0, Nat.zero_le _, rfl, fun j hj => absurd hj (by omega), Below.refl _ _⟩
  case round =>
    obtain ⟨k, hk, rfl, HK, hb⟩ := hrel
    by_cases hlt : k < n
    · obtain ⟨x, hx, htk⟩ := take_snoc' vs k (by rw [HL.out]; omega)
      obtain ⟨b, o, rfl, hbl, hc⟩ := (hr.below hb) k x hx
      have c0 := hc 0 _ rfl
      rw [Nat.add_zero] at c0
      have c1 := hc 1 _ rfl
      have c2 := hc 2 _ rfl
      have c3 := hc 3 _ rfl
      have c4 := hc 4 _ rfl
      have HX := Lib.hid hx
      clear hc htk hx hr
      cases hp : p k with
      | true =>
        have HQ := Lib.hid (firstI_some HK.out hlt hp)
        have HP := Lib.hid hp
        clear hp HK
        go_wp2_with fail
        refine (HF.out k x _ HX.out hb).mono ?_
        rintro e w1 ⟨rfl, hb1⟩
        rw [HP.out]
        go_wp2_with fail
        go_ret
        exact ⟨by rw [HQ.out]; rfl, hb.trans (hb1.mono hb.size)⟩
      | false =>
        have HQ := Lib.hid (no_step HK.out hp)
        have HP := Lib.hid hp
        clear hp HK
        go_wp2_with fail
        refine (HF.out k x _ HX.out hb).mono ?_
        rintro e w1 ⟨rfl, hb1⟩
        rw [HP.out]
        go_wp2_with fail
        go_roundw
        case rel => exact ⟨k + 1, by omega, by go_num, HQ, hb.trans (hb1.mono hb.size)⟩
        case measure => simp [intOf]; omega
    · obtain rfl : k = n := by omega
      have HQ := Lib.hid (firstI_none HK.out)
      clear HK
      go_wp2_with fail
      go_ret
      exact ⟨by rw [HQ.out]; rfl, hb⟩
def fnd1 (o : Option Nat) : Int := match o with | some i => i | none => 0
def fnd2 (o : Option Nat) : Int := match o with | some _ => 0 | none => 3
theorem findVolume1_any (x : Vol) (s : ByteArray) (bt : Nat) (w : World) (ct : w.cell? ⟨bt, 0, none⟩ = some (.string s)) :
    Calls Try.prog 44 #[.agg #[.string x.name, .int .i64 x.frm, .int .i64 x.til, .int .i64 x.cnt, .int .i64 x.cop], .pointer (some ⟨bt, 0, none⟩)] w fun e w' => e = .returned (.bool ((x.name.toList == s.toList))) ∧ Below w.heap.size w w' := by
  have hbt : bt < w.heap.size := by
    rcases Nat.lt_or_ge bt w.heap.size with h | h
    · exact h
    · simp [World.cell?, Array.getElem?_eq_none h] at ct
  have hb : Below w.heap.size w (w.alloc (.cells #[.string x.name, .int .i64 x.frm, .int .i64 x.til, .int .i64 x.cnt, .int .i64 x.cop] 31)) := (Below.refl _ _).alloc (Nat.le_refl _) _
  have d1 := (hb.cell (p := ⟨bt, 0, none⟩) hbt).trans ct
  have d2 := (At5.new w x 31).2.1
  have HB := Lib.hid hb
  clear hb
  go_enter Try.func44, Try.ntmps44
  go_wp2_with fail
  go_ret
  exact ⟨by first | rfl | simp [BEq.beq], HB.out⟩
theorem indexOfV_any (vs : List Vol) (p : Nat → Bool) (f : FuncId) (cs : Array Value) (a : Option Addr) (n c : Nat) (w : World) (hn : n ≤ 1048576) (hl : vs.length = n) (hr : Rd Vol.enc 5 w a vs)
    (hcf : ∀ (args : Array Value) (wx : World), (callFunc f args).run Try.prog wx = .ok (.enter f args) wx)
    (hf : ∀ (i : Nat) (x : Vol) (w' : World), vs[i]? = some x → Below w.heap.size w w' → Calls Try.prog f (#[.agg #[.string x.name, .int .i64 x.frm, .int .i64 x.til, .int .i64 x.cnt, .int .i64 x.cop]] ++ cs) w' fun e w'' => e = .returned (.bool (p i)) ∧ Below w'.heap.size w' w'') :
    Calls Try.prog 43 #[.slice a n c, .func (.func f) #[] cs] w fun e w' => e = .returned (.tuple #[.int .i64 (fnd1 (firstI n p)), .int .i64 (fnd2 (firstI n p))]) ∧ Below w.heap.size w w' := by
  have HF := Lib.hid hf
  have HL := Lib.hid hl
  clear hf hl
  cases hq : firstI n p with
  | none =>
    have HQ := Lib.hid hq
    clear hq
    go_enter Try.func43, Try.ntmps43
    go_wp2_with fail
    refine (IndexFuncV_any vs p f cs a n c _ hn HL.out hr hcf HF.out).mono ?_
    rintro e w1 ⟨rfl, hb⟩
    rw [HQ.out, findZ]
    go_wp2_with fail
    go_ret2
    exact ⟨rfl, hb⟩
  | some i =>
    have HQ := Lib.hid hq
    clear hq
    go_enter Try.func43, Try.ntmps43
    go_wp2_with fail
    refine (IndexFuncV_any vs p f cs a n c _ hn HL.out hr hcf HF.out).mono ?_
    rintro e w1 ⟨rfl, hb⟩
    rw [HQ.out, findZ]
    go_wp2_with fail
    go_ret2
    exact ⟨rfl, hb⟩
theorem findVolume_any (vs : List Vol) (s : ByteArray) (a : Option Addr) (n c : Nat) (w : World) (hn : n ≤ 1048576) (hl : vs.length = n) (hr : Rd Vol.enc 5 w a vs) :
    Calls Try.prog 24 #[.slice a n c, .string s] w fun e w' => e = .returned (.tuple #[.int .i64 (fnd1 (firstI n (nmP vs s))), .int .i64 (fnd2 (firstI n (nmP vs s)))]) ∧ Below w.heap.size w w' := by
  have HL := Lib.hid hl
  clear hl
  obtain ⟨cs, hb0, hs0⟩ := box1 w (.string s) 9
  have HC := Lib.hid cs
  have HB := Lib.hid hb0
  have HS := Lib.hid hs0
  clear cs hb0 hs0
  go_enter Try.func24, Try.ntmps24
  go_wp2_with fail
  refine (indexOfV_any vs (nmP vs s) _ _ a n c _ hn HL.out (hr.below HB.out) ?c1 ?c2).mono ?_
  case c1 => intro args wx; kernel_rfl
  case c2 =>
    intro i x w' hx hb'
    rw [show nmP vs s i = (x.name.toList == s.toList) from atP_eq hx]
    refine findVolume1_any x s _ w' ((hb'.cell (p := ⟨w.heap.size, 0, none⟩) (by show w.heap.size < _; rw [HS.out]; omega)).trans HC.out)
  rintro e w1 ⟨rfl, hb⟩
  go_wp2_with fail
  go_ret2
  exact ⟨rfl, HB.out.trans (hb.mono (by rw [HS.out]; omega))⟩
end Go.Proofs.Ytgdcefdncjmnkaa
