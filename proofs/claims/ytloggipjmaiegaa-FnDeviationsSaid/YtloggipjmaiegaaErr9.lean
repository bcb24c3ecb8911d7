/-
  The draws of the law on errors.
-/
import Derived.Test.YtloggipjmaiegaaErr8
namespace Go.Proofs.Ytloggipjmaiegaa
open Go.RowKit
set_option maxRecDepth 100000
set_option linter.unusedVariables false
def GL (w : World) (v : Value) (M : Nat) (L : List Int) : Prop := ∃ (a : Option Addr) (n c : Nat), v = .slice a n c ∧ n ≤ M ∧ n ≤ c ∧ L.length = n ∧ (∀ x ∈ L, I64 x) ∧ Rd eI 1 w a L
theorem GL.of {w : World} {base e n c M : Nat} {a : Option Addr} {L : List Int} (h : Ow eI 1 w base e (.slice a n c) n L) (hn : n ≤ M) (hi : ∀ x ∈ L, I64 x) : GL w (.slice a n c) M L :=
  ⟨a, n, c, rfl, hn, h.caps.1, h.len eI_len (by decide), hi, h.rd eI_len (by decide)⟩
def Ask1 (w : World) (M : Nat) (e : Ending) (w' : World) : Prop := ∃ v L, e = .returned v ∧ GL w' v M L ∧ Below w.heap.size w w'
def Ask2 (w : World) (M N : Nat) (e : Ending) (w' : World) : Prop := ∃ v u L R, e = .returned (.tuple #[v, u]) ∧ GL w' v M L ∧ GL w' u N R ∧ Below w.heap.size w w'
def Ask3 (w : World) (M N K : Nat) (e : Ending) (w' : World) : Prop := ∃ v u t L R T, e = .returned (.tuple #[v, u, t]) ∧ GL w' v M L ∧ GL w' u N R ∧ GL w' t K T ∧ Below w.heap.size w w'
set_option maxHeartbeats 2000000 in
theorem DrawWeightedMean_any (a : Option Addr) (n c : Nat) (xs : List Int) (w : World) (hl : xs.length = n) (ho : ∀ x ∈ xs, Byt x) (hr : Rd eB 1 w a xs) : Calls Try.prog 55 #[.slice a n c] w (Ask2 w 101 102) := by
  have HL := Lib.hid hl
  have HO := Lib.hid ho
  have HR := Lib.hid hr
  clear hl ho hr
  go_enter Try.func55, Try.ntmps55
  go_wp2_with fail
  refine (srcFrom a n c _).mono ?_
  rintro e wf ⟨rfl, hsf, hltf⟩
  have HSf := Lib.hid hsf
  have HUf : Hid (But w.heap.size wf wf) := Lib.hid (But.refl _ _)
  clear hsf
  go_wp2_with fail
  have hbl1 : w.heap.size < wf.heap.size := HSf.out.lt'
  refine (l21Draw_any w _ w.heap.size a n c 0 0 xs (by omega) HL.out HO.out HR.out HSf.out).mono ?_
  rintro e wv2 ⟨a1, k1, c1, L1, p1, z1, rfl, hk1, hP1, ho1, hp1, hs3, hu4⟩
  have HO1 := Lib.hid ho1
  clear ho1
  have hsz1 : wf.heap.size ≤ wv2.heap.size := hu4.size
  have HS5 := Lib.hid hs3
  have HU6 := Lib.hid (HUf.out.trans hu4)
  clear hs3 hu4
  go_wp2_with fail
  have hbl7 : w.heap.size < wv2.heap.size := HS5.out.lt'
  refine (l21DrawWeights_any w _ w.heap.size a n c p1 z1 xs k1 (by omega) (by omega) HL.out HO.out HR.out HS5.out).mono ?_
  rintro e wv8 ⟨a7, k7, c7, L7, p7, z7, rfl, hk7, hP7, ho7, hp7, hs9, hu10⟩
  have HO7 := Lib.hid ho7
  clear ho7
  have HO11 := Lib.hid (HO1.out.draw HS5.out hs9 hu10 hbl1)
  have hsz12 : wf.heap.size ≤ wv8.heap.size := Nat.le_trans hsz1 hu10.size
  have hsz7 : wv2.heap.size ≤ wv8.heap.size := hu10.size
  have HS13 := Lib.hid hs9
  have HU14 := Lib.hid (HU6.out.trans hu10)
  clear hs9 hu10
  go_wp2_with fail
  go_ret2
  exact ⟨_, _, _, _, rfl, GL.of HO11.out (by omega) hP1, GL.of HO7.out (by omega) hP7, HS13.out.ok⟩
set_option maxHeartbeats 2000000 in
theorem DrawSquareOfError_any (a : Option Addr) (n c : Nat) (xs : List Int) (w : World) (hl : xs.length = n) (ho : ∀ x ∈ xs, Byt x) (hr : Rd eB 1 w a xs) : Calls Try.prog 61 #[.slice a n c] w (Ask1 w 101) := by
  have HL := Lib.hid hl
  have HO := Lib.hid ho
  have HR := Lib.hid hr
  clear hl ho hr
  go_enter Try.func61, Try.ntmps61
  go_wp2_with fail
  refine (srcFrom a n c _).mono ?_
  rintro e wf ⟨rfl, hsf, hltf⟩
  have HSf := Lib.hid hsf
  have HUf : Hid (But w.heap.size wf wf) := Lib.hid (But.refl _ _)
  clear hsf
  go_wp2_with fail
  have hbl1 : w.heap.size < wf.heap.size := HSf.out.lt'
  refine (l21Draw_any w _ w.heap.size a n c 0 0 xs (by omega) HL.out HO.out HR.out HSf.out).mono ?_
  rintro e wv2 ⟨a1, k1, c1, L1, p1, z1, rfl, hk1, hP1, ho1, hp1, hs3, hu4⟩
  have HO1 := Lib.hid ho1
  clear ho1
  have hsz1 : wf.heap.size ≤ wv2.heap.size := hu4.size
  have HS5 := Lib.hid hs3
  have HU6 := Lib.hid (HUf.out.trans hu4)
  clear hs3 hu4
  go_wp2_with fail
  go_ret
  exact ⟨_, _, rfl, GL.of HO1.out (by omega) hP1, HS5.out.ok⟩
set_option maxHeartbeats 2000000 in
theorem DrawLeaveOneOut_any (a : Option Addr) (n c : Nat) (xs : List Int) (w : World) (hl : xs.length = n) (ho : ∀ x ∈ xs, Byt x) (hr : Rd eB 1 w a xs) : Calls Try.prog 64 #[.slice a n c] w (Ask1 w 101) := by
  have HL := Lib.hid hl
  have HO := Lib.hid ho
  have HR := Lib.hid hr
  clear hl ho hr
  go_enter Try.func64, Try.ntmps64
  go_wp2_with fail
  refine (srcFrom a n c _).mono ?_
  rintro e wf ⟨rfl, hsf, hltf⟩
  have HSf := Lib.hid hsf
  have HUf : Hid (But w.heap.size wf wf) := Lib.hid (But.refl _ _)
  clear hsf
  go_wp2_with fail
  have hbl1 : w.heap.size < wf.heap.size := HSf.out.lt'
  refine (l21Draw_any w _ w.heap.size a n c 0 0 xs (by omega) HL.out HO.out HR.out HSf.out).mono ?_
  rintro e wv2 ⟨a1, k1, c1, L1, p1, z1, rfl, hk1, hP1, ho1, hp1, hs3, hu4⟩
  have HO1 := Lib.hid ho1
  clear ho1
  have hsz1 : wf.heap.size ≤ wv2.heap.size := hu4.size
  have HS5 := Lib.hid hs3
  have HU6 := Lib.hid (HUf.out.trans hu4)
  clear hs3 hu4
  go_wp2_with fail
  go_ret
  exact ⟨_, _, rfl, GL.of HO1.out (by omega) hP1, HS5.out.ok⟩
set_option maxHeartbeats 2000000 in
theorem DrawSignChanges_any (a : Option Addr) (n c : Nat) (xs : List Int) (w : World) (hl : xs.length = n) (ho : ∀ x ∈ xs, Byt x) (hr : Rd eB 1 w a xs) : Calls Try.prog 67 #[.slice a n c] w (Ask2 w 101 102) := by
  have HL := Lib.hid hl
  have HO := Lib.hid ho
  have HR := Lib.hid hr
  clear hl ho hr
  go_enter Try.func67, Try.ntmps67
  go_wp2_with fail
  refine (srcFrom a n c _).mono ?_
  rintro e wf ⟨rfl, hsf, hltf⟩
  have HSf := Lib.hid hsf
  have HUf : Hid (But w.heap.size wf wf) := Lib.hid (But.refl _ _)
  clear hsf
  go_wp2_with fail
  have hbl1 : w.heap.size < wf.heap.size := HSf.out.lt'
  refine (l21Draw_any w _ w.heap.size a n c 0 0 xs (by omega) HL.out HO.out HR.out HSf.out).mono ?_
  rintro e wv2 ⟨a1, k1, c1, L1, p1, z1, rfl, hk1, hP1, ho1, hp1, hs3, hu4⟩
  have HO1 := Lib.hid ho1
  clear ho1
  have hsz1 : wf.heap.size ≤ wv2.heap.size := hu4.size
  have HS5 := Lib.hid hs3
  have HU6 := Lib.hid (HUf.out.trans hu4)
  clear hs3 hu4
  go_wp2_with fail
  have hbl7 : w.heap.size < wv2.heap.size := HS5.out.lt'
  refine (l21DrawModel_any w _ w.heap.size a n c p1 z1 xs L1 a1 k1 c1 wf.heap.size (by omega) (by omega) HL.out HO.out HR.out HS5.out HO1.out hbl1 hsz1).mono ?_
  rintro e wv8 ⟨a7, k7, c7, L7, p7, z7, rfl, hk7, hP7, ho7, hp7, hs9, hu10⟩
  have HO7 := Lib.hid ho7
  clear ho7
  have HO11 := Lib.hid (HO1.out.draw HS5.out hs9 hu10 hbl1)
  have hsz12 : wf.heap.size ≤ wv8.heap.size := Nat.le_trans hsz1 hu10.size
  have hsz7 : wv2.heap.size ≤ wv8.heap.size := hu10.size
  have HS13 := Lib.hid hs9
  have HU14 := Lib.hid (HU6.out.trans hu10)
  clear hs9 hu10
  go_wp2_with fail
  go_ret2
  exact ⟨_, _, _, _, rfl, GL.of HO11.out (by omega) hP1, GL.of HO7.out (by omega) hP7, HS13.out.ok⟩
set_option maxHeartbeats 2000000 in
theorem DrawChiSquare_any (a : Option Addr) (n c : Nat) (xs : List Int) (w : World) (hl : xs.length = n) (ho : ∀ x ∈ xs, Byt x) (hr : Rd eB 1 w a xs) : Calls Try.prog 58 #[.slice a n c] w (Ask3 w 101 102 102) := by
  have HL := Lib.hid hl
  have HO := Lib.hid ho
  have HR := Lib.hid hr
  clear hl ho hr
  go_enter Try.func58, Try.ntmps58
  go_wp2_with fail
  refine (srcFrom a n c _).mono ?_
  rintro e wf ⟨rfl, hsf, hltf⟩
  have HSf := Lib.hid hsf
  have HUf : Hid (But w.heap.size wf wf) := Lib.hid (But.refl _ _)
  clear hsf
  go_wp2_with fail
  have hbl1 : w.heap.size < wf.heap.size := HSf.out.lt'
  refine (l21Draw_any w _ w.heap.size a n c 0 0 xs (by omega) HL.out HO.out HR.out HSf.out).mono ?_
  rintro e wv2 ⟨a1, k1, c1, L1, p1, z1, rfl, hk1, hP1, ho1, hp1, hs3, hu4⟩
  have HO1 := Lib.hid ho1
  clear ho1
  have hsz1 : wf.heap.size ≤ wv2.heap.size := hu4.size
  have HS5 := Lib.hid hs3
  have HU6 := Lib.hid (HUf.out.trans hu4)
  clear hs3 hu4
  go_wp2_with fail
  have hbl7 : w.heap.size < wv2.heap.size := HS5.out.lt'
  refine (l21DrawModel_any w _ w.heap.size a n c p1 z1 xs L1 a1 k1 c1 wf.heap.size (by omega) (by omega) HL.out HO.out HR.out HS5.out HO1.out hbl1 hsz1).mono ?_
  rintro e wv8 ⟨a7, k7, c7, L7, p7, z7, rfl, hk7, hP7, ho7, hp7, hs9, hu10⟩
  have HO7 := Lib.hid ho7
  clear ho7
  have HO11 := Lib.hid (HO1.out.draw HS5.out hs9 hu10 hbl1)
  have hsz12 : wf.heap.size ≤ wv8.heap.size := Nat.le_trans hsz1 hu10.size
  have hsz7 : wv2.heap.size ≤ wv8.heap.size := hu10.size
  have HS13 := Lib.hid hs9
  have HU14 := Lib.hid (HU6.out.trans hu10)
  clear hs9 hu10
  go_wp2_with fail
  have hbl15 : w.heap.size < wv8.heap.size := HS13.out.lt'
  refine (l21DrawWeights_any w _ w.heap.size a n c p7 z7 xs k1 (by omega) (by omega) HL.out HO.out HR.out HS13.out).mono ?_
  rintro e wv16 ⟨a15, k15, c15, L15, p15, z15, rfl, hk15, hP15, ho15, hp15, hs17, hu18⟩
  have HO15 := Lib.hid ho15
  clear ho15
  have HO19 := Lib.hid (HO11.out.draw HS13.out hs17 hu18 hbl1)
  have hsz20 : wf.heap.size ≤ wv16.heap.size := Nat.le_trans hsz12 hu18.size
  have HO21 := Lib.hid (HO7.out.draw HS13.out hs17 hu18 hbl7)
  have hsz22 : wv2.heap.size ≤ wv16.heap.size := Nat.le_trans hsz7 hu18.size
  have hsz15 : wv8.heap.size ≤ wv16.heap.size := hu18.size
  have HS23 := Lib.hid hs17
  have HU24 := Lib.hid (HU14.out.trans hu18)
  clear hs17 hu18
  go_wp2_with fail
  go_ret3
  exact ⟨_, _, _, _, _, _, rfl, GL.of HO19.out (by omega) hP1, GL.of HO21.out (by omega) hP7, GL.of HO15.out (by omega) hP15, HS23.out.ok⟩
end Go.Proofs.Ytloggipjmaiegaa
