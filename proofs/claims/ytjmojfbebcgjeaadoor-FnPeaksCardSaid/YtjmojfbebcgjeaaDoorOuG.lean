/-
  Alerts to join: drawn.
-/
import Derived.Test.YtjmojfbebcgjeaaDoorDrwP
import Derived.Test.YtjmojfbebcgjeaaDoorFr
import Derived.Test.YtjmojfbebcgjeaaDoorAppL
import Derived.Laws.ResultCell
import Derived.Deep.RegionHeld3
namespace Go.Proofs.YtjmojfbebcgjeaaDoor
open Go.RowKit
set_option maxRecDepth 100000
structure Alt where
  beg : Int
  fin : Int
  peak : Int
def Alt.enc (v : Alt) : List Value := [.int .i64 v.beg, .int .i64 v.fin, .int .i64 v.peak]
theorem Alt.len (v : Alt) : v.enc.length = 3 := rfl
instance : Inhabited Alt := ⟨⟨0, 0, 0⟩⟩
theorem Alt.one (v : Alt) : ∀ u ∈ v.enc, u.oneCell' = true := by
  intro u hu
  simp only [Alt.enc, List.mem_cons, List.not_mem_nil, or_false] at hu
  rcases hu with rfl | rfl | rfl <;> rfl
theorem CAt.drewS {w : World} {b : Nat} {vs : Array Value} {t : TypeId} (h : CAt w b vs t) : CAt w.drew b vs t := h
theorem SrcAt.setG {w0 w : World} {b g : Nat} {a : Option Addr} {n c p : Nat} {z : Int} (h : SrcAt w0 w b a n c p z) (hne : b ≠ g) (hg : w0.heap.size ≤ g) (j : Nat) (u : Value) : SrcAt w0 (w.setCell ⟨g, j, none⟩ u) b a n c p z :=
  ⟨h.base, h.ok.setCell (p := ⟨g, j, none⟩) hg u, (Below.heap_setCell _ _ _ _ hne).trans h.blk, h.z0, h.z1⟩
theorem But.setG {b g : Nat} {w w' : World} (h : But b w w') (hg : w.heap.size ≤ g) (j : Nat) (u : Value) : But b w (w'.setCell ⟨g, j, none⟩ u) :=
  ⟨by simpa [World.setCell] using h.size, fun k hk hb => (Below.heap_setCell _ _ _ _ (by show k ≠ g; omega)).trans (h.blk k hk hb)⟩
def DrawnH (w0 w : World) (b : Nat) (a : Option Addr) (n c p : Nat) (e : Ending) (w' : World) : Prop := ∃ (x y : Int) (p' : Nat) (z' : Int), e = .returned (.agg #[.int .i64 x, .int .i64 y]) ∧ I64 x ∧ I64 y ∧ p' ≤ p + 20 ∧ SrcAt w0 w' b a n c p' z' ∧ But b w w'
open Go.RowKit
set_option maxRecDepth 100000
theorem results_tmp_cell {fn : Func} {p u : Tmp} {ty : TypeId} (h : fn.results = #[.tmp u, .cell p ty]) (tmps : Array Value) (P : Program) (w : World) :
    (results fn tmps).run P w = ((asAddr (tmps.getD p undef)).run P w).andThen fun a w₁ => ((loadVar ty a).run P w₁).andThen fun v w₂ => .ok (.tuple #[tmps.getD u undef, v]) w₂ := by
  simp only [results, h]
  simp [Sem.run_bind, Result.andThen]
theorem Ow.setLow {w : World} {base e m g : Nat} {v : Value} {ps : List Pt} (ho : Ow Pt.enc 2 w base e v m ps) (hg : g < base) (j : Nat) (u : Value) : Ow Pt.enc 2 (w.setCell ⟨g, j, none⟩ u) base e v m ps :=
  ho.same fun q hq => Below.heap_setCell _ _ _ _ (by have := (ho.lt q hq).1; show q ≠ g; omega)
def AskO (w : World) (e : Ending) (w' : World) : Prop := ∃ (a' : Option Addr) (k c' : Nat) (ps : List Pt) (x y : Int), e = .returned (.tuple #[.slice a' k c', .agg #[.int .i64 x, .int .i64 y]]) ∧ k ≤ 101 ∧ Ow Pt.enc 2 w' w.heap.size 49 (.slice a' k c') k ps ∧ I64 x ∧ I64 y ∧ Below w.heap.size w w'
open Go.RowKit
set_option maxRecDepth 100000
theorem infoA : (Tryd.prog.info? 60).map (fun i => (i.zero, i.size, i.bytes)) = some (some (.agg #[.int .i64 0, .int .i64 0, .int .i64 0]), 3, 24) := by kernel_rfl
def DrawnA (w0 w : World) (b : Nat) (a : Option Addr) (n c p : Nat) (e : Ending) (w' : World) : Prop := ∃ (a' : Option Addr) (k c' : Nat) (as' : List Alt) (p' : Nat) (z' : Int), e = .returned (.slice a' k c') ∧ k ≤ 51 ∧ Ow Alt.enc 3 w' w.heap.size 60 (.slice a' k c') k as' ∧ p' ≤ p + 400 ∧ SrcAt w0 w' b a n c p' z' ∧ But b w w'
set_option maxHeartbeats 8000000 in
theorem l19Some_any (w0 w : World) (b : Nat) (a : Option Addr) (n c p : Nat) (z : Int) (xs : List Int) (hp : p ≤ 8000) (hl : xs.length = n) (ho : ∀ x ∈ xs, Byt x) (hr : Rd eB 1 w0 a xs) (h : SrcAt w0 w b a n c p z) : Calls Tryd.prog 63 #[.pointer (some ⟨b, 0, none⟩)] w (DrawnA w0 w b a n c p) := by
  have hblt := h.lt'
  have HS0 := Lib.hid (h.alloc' (.cells #[] 60))
  have HW0 := Lib.hid (Ow.built Alt.enc 3 w 60)
  have HU0 : Hid (But b w (w.alloc (.cells #[] 60))) := Lib.hid ((But.refl b w).ofBelow ((Below.refl _ _).alloc (Nat.le_refl _) _))
  have HL := Lib.hid hl
  have HO := Lib.hid ho
  have HR := Lib.hid hr
  have HBL := Lib.hid hblt
  clear hl ho hr h
  go_enter Tryd.func63, Tryd.ntmps63
  go_wp2_with fail
  refine (srcPick 50 w0 _ b a n c p z xs (by omega) (by omega) (by omega) HL.out HO.out HR.out HS0.out).mono ?_
  rintro e w1 ⟨v1, p1, z1, rfl, hv1, hx1, hp1, hs1, hu1⟩
  have HW1 := Lib.hid (HW0.out.draw HS0.out hs1 hu1 HBL.out)
  have HS1 := Lib.hid hs1
  have HU1 := Lib.hid (HU0.out.trans hu1)
  clear hs1 hu1
  go_wp2_with fail
  refine (srcPick 6 w0 _ b a n c p1 z1 xs (by omega) (by omega) (by omega) HL.out HO.out HR.out HS1.out).mono ?_
  rintro e w2 ⟨v2, p2, z2, rfl, hv2, hx2, hp2, hs2, hu2⟩
  have HW2 := Lib.hid (HW1.out.draw HS1.out hs2 hu2 HBL.out)
  have HS2 := Lib.hid hs2
  have HU2 := Lib.hid (HU1.out.trans hu2)
  clear hs2 hu2
  go_wp2_with fail
  refine (srcOne 20 w0 _ b a n c p2 z2 xs (by omega) (by omega) (by omega) HL.out HO.out HR.out HS2.out).mono ?_
  rintro e w3 ⟨v3, p3, z3, rfl, hp3, hs3, hu3⟩
  have HS3 := Lib.hid hs3
  have HW3 := Lib.hid (HW2.out.draw HS2.out hs3 hu3 HBL.out)
  have HU3 := Lib.hid (HU2.out.trans hu3)
  clear hs3 hu3
  cases v3 with
  | true =>
    go_wp2_with fail
    refine (srcPick 2 w0 _ b a n c p3 z3 xs (by omega) (by omega) (by omega) HL.out HO.out HR.out HS3.out).mono ?_
    rintro e w4 ⟨v4, p4, z4, rfl, hv4, hx4, hp4, hs4, hu4⟩
    have HW4 := Lib.hid (HW3.out.draw HS3.out hs4 hu4 HBL.out)
    have HS4 := Lib.hid hs4
    have HU4 := Lib.hid (HU3.out.trans hu4)
    clear hs4 hu4
    obtain ⟨NN, hNN⟩ : ∃ N, 50 + v4 = N := ⟨_, rfl⟩
    have hN0 : 0 ≤ NN ∧ NN ≤ 51 := by omega
    have iN : IntKind.i64.wrap (50 + v4) = NN := by rw [hNN]; exact IntWalk.i64_in _ (by omega)
    clear hNN
    go_wp2_with fail
    go_loopw [3, 4, 6] (fun l am kk wr => ∃ (j : Nat) (A K : Int) (a' : Option Addr) (c' : Nat) (as' : List Alt) (p' : Nat) (z' : Int), kk = .int .i64 K ∧ 0 ≤ K ∧ K + j = NN ∧ am = .int .i64 A ∧ 0 ≤ A ∧ A ≤ 60 + 110 * (j : Int) ∧ l = .slice a' j c' ∧ Hid (Ow Alt.enc 3 wr w.heap.size 60 (.slice a' j c') j as') ∧ p' ≤ p + 8 + 6 * j ∧ Hid (SrcAt w0 wr b a n c p' z') ∧ Hid (But b w wr)) (fun _ _ kk _ => (intOf kk).toNat)
    case atStart => exact ⟨0, _, NN, _, _, [], p4, z4, rfl, by omega, by omega, rfl, by omega, by omega, rfl, HW4, by omega, HS4, HU4⟩
    case round =>
      obtain ⟨j, A, K, a', c', as', p', z', rfl, hK0, hKj, rfl, hA0, hA1, rfl, HOW, hp', HSr, HUr⟩ := hrel
      by_cases hlt : 0 < K
      · have hj51 : j ≤ 51 := by omega
        go_wp2_with fail
        refine (srcPick 40 w0 _ b a n c p' z' xs (by omega) (by omega) (by omega) HL.out HO.out HR.out HSr.out).mono ?_
        rintro e w11 ⟨v11, p11, z11, rfl, hv11, hx11, hp11, hs11, hu11⟩
        have HW11 := Lib.hid (HOW.out.draw HSr.out hs11 hu11 HBL.out)
        have HS11 := Lib.hid hs11
        have HU11 := Lib.hid (HUr.out.trans hu11)
        clear hs11 hu11
        obtain ⟨E, hE⟩ : ∃ E, A + 1 + v11 = E := ⟨_, rfl⟩
        have hE0 : A + 1 ≤ E ∧ E ≤ A + 40 := by omega
        have i1 : IntKind.i64.wrap (A + 1) = A + 1 := IntWalk.i64_in _ (by omega)
        have i2 : IntKind.i64.wrap (A + 1 + v11) = E := by rw [hE]; exact IntWalk.i64_in _ (by omega)
        have HCN := Lib.hid (CAt.new w11 #[.int .i64 A, .int .i64 E, .int .i64 0] 60)
        have HBX := Lib.hid ((Below.refl w11.heap.size w11).alloc (Nat.le_refl _) (.cells #[.int .i64 A, .int .i64 E, .int .i64 0] 60))
        have hw11 : w.heap.size ≤ w11.heap.size := HU11.out.size
        have HWX := Lib.hid (HW11.out.below HBX.out)
        have HSX := Lib.hid (HS11.out.alloc' (.cells #[.int .i64 A, .int .i64 E, .int .i64 0] 60))
        have HUX : Hid (But b w (w11.alloc (.cells #[.int .i64 A, .int .i64 E, .int .i64 0] 60))) := Lib.hid (HU11.out.ofN HBX.out hw11)
        have HNE : Hid ((Value.slice a' j c').ownBlock ≠ some w11.heap.size) := Lib.hid fun he => by have := (HW11.out.lt _ he).2; omega
        clear hE HBX
        go_upto_region 10 with (fail)
        obtain ⟨wX, hwX⟩ : ∃ wX, w11.alloc (.cells #[.int .i64 A, .int .i64 E, .int .i64 0] 60) = wX := ⟨_, rfl⟩
        obtain ⟨gx, hgx⟩ : ∃ gx, w11.heap.size = gx := ⟨_, rfl⟩
        rw [hwX] at HCN HWX HSX HUX ⊢
        rw [hgx] at HCN HNE hw11 ⊢
        have hbg : b ≠ gx := by have := HBL.out; omega
        clear hwX hgx i1 i2
        go_wp2_with fail
        refine (srcPick 90 w0 _ b a n c p11 z11 xs (by omega) (by omega) (by omega) HL.out HO.out HR.out HSX.out).mono ?_
        rintro e w12 ⟨v12, p12, z12, rfl, hv12, hx12, hp12, hs12, hu12⟩
        have HW12 := Lib.hid (HWX.out.draw HSX.out hs12 hu12 HBL.out)
        have HC12 := Lib.hid (HCN.out.but hu12 (Ne.symm hbg))
        have HS12 := Lib.hid hs12
        have HU12 := Lib.hid (HUX.out.trans hu12)
        clear hs12 hu12
        obtain ⟨P, hP⟩ : ∃ P, 8000 + 10 * v12 = P := ⟨_, rfl⟩
        have i1 : IntKind.i64.wrap (10 * v12) = 10 * v12 := IntWalk.i64_in _ (by omega)
        have i2 : IntKind.i64.wrap (8000 + 10 * v12) = P := by rw [hP]; exact IntWalk.i64_in _ (by omega)
        have k0 : w12.cell? ⟨gx, 2, none⟩ = some (.int .i64 0) := HC12.out.cell 2
        have kf := HC12.out.free 2
        have HC13 := Lib.hid (HC12.out.set 2 (.int .i64 P))
        have HS13 := Lib.hid (HS12.out.setG hbg (by have := HS12.out.base; have := HBL.out; omega) 2 (.int .i64 P))
        have HU13 := Lib.hid (HU12.out.setG hw11 2 (.int .i64 P))
        have HW13 : Hid (Ow Alt.enc 3 (w12.setCell ⟨gx, 2, none⟩ (.int .i64 P)) w.heap.size 60 (.slice a' j c') j as') := Lib.hid (HW12.out.same fun q hq => Below.heap_setCell _ _ _ _ (by intro he; exact HNE.out (by rw [hq]; exact congrArg some he)))
        clear hP
        go_upto_region 11 with (fail)
        obtain ⟨w13, hw13⟩ : ∃ w13, w12.setCell ⟨gx, 2, none⟩ (.int .i64 P) = w13 := ⟨_, rfl⟩
        rw [hw13] at HC13 HS13 HU13 HW13 ⊢
        clear hw13 k0 kf i1 i2
        have x0 : w13.cell? ⟨gx, 0, none⟩ = some (.int .i64 A) := HC13.out.cell 0
        have x1 : w13.cell? ⟨gx, 1, none⟩ = some (.int .i64 E) := HC13.out.cell 1
        have x2 : w13.cell? ⟨gx, 2, none⟩ = some (.int .i64 P) := HC13.out.cell 2
        have h63 : j + 1 ≤ maxLen := by unfold maxLen; omega
        have hby : (j + 1) * 24 ≤ 140737488355328 := by omega
        have hbs : w.heap.size ≤ w13.heap.size := HU13.out.size
        have hgl : gx < w13.heap.size := HC13.out.lt
        obtain ⟨ys, hys⟩ : ∃ ys, as' ++ [(⟨A, E, P⟩ : Alt)] = ys := ⟨_, rfl⟩
        have HYS := Lib.hid hys
        clear hys
        go_wp2_with (at_builtin; refine wpl_appH Alt.len (by decide) _ rfl (.tmp 36) (.tmp 38) 51 rfl 60 _ 24 rfl Tryd.underlying51 infoA w.heap.size _ j _ rfl w13 _ _ rfl HW13.out (⟨A, E, P⟩ : Alt) rfl rfl (Alt.one _) h63 hby hbs ys HYS ?_)
        intro a4 c4 w14 ho14 hb14 hs14 hk14
        have HW14 := Lib.hid ho14
        have HC14 := Lib.hid (HC13.out.keep hk14 HNE.out)
        have HS14 := Lib.hid (HS13.out.belowN hb14 HBL.out)
        have HU14 := Lib.hid (HU13.out.ofBelow hb14)
        clear ho14 hb14 hk14 x0 x1 x2 h63 hby
        have x1 : w14.cell? ⟨gx, 1, none⟩ = some (.int .i64 E) := HC14.out.cell 1
        have i3 : IntKind.i64.wrap (E + 1) = E + 1 := IntWalk.i64_in _ (by omega)
        have HSd := Lib.hid HS14.out.drew
        have HCd := Lib.hid HC14.out.drewS
        go_upto_region 12 with (fail)
        go_region_held3 (fun wq : World => wq.cell? ⟨gx, 1, none⟩ = some (.int .i64 E)) (first | exact HCd.out.cell 1 | exact HC15.out.cell 1 | (go_keep; done) | fail)
          (first
            | (go_at_call 45; (with_reducible refine (srcPick 60 w0 _ b a n c p12 z12 xs (by omega) (by omega) (by omega) HL.out HO.out HR.out HSd.out).mono ?_); rintro e w15 ⟨v15, p15, z15, rfl, hv15, hx15, hp15, hs15, hu15⟩; have HC15 := Lib.hid (HCd.out.but hu15 (Ne.symm hbg)); have HW15 := Lib.hid (HW14.out.draw HS14.out hs15 hu15.ofDrew HBL.out); have HU15 := Lib.hid (HU14.out.trans hu15.ofDrew); have HS15 := Lib.hid hs15; clear hs15 hu15; have i4 : IntKind.i64.wrap (E + 1 + v15) = E + 1 + v15 := IntWalk.i64_in _ (by omega)))
        clear x1
        go_wp2_with fail
        go_roundw
        case rel => exact ⟨j + 1, _, K - 1, a4, c4, ys, p15, z15, rfl, by omega, by omega, rfl, by omega, by omega, rfl, HW15, by omega, HS15, HU15⟩
        case measure => simp [intOf]; omega
      · obtain rfl : K = 0 := by omega
        obtain ⟨k, hk⟩ : ∃ k : Nat, k = j := ⟨_, rfl⟩
        subst hk
        obtain rfl : NN = (k : Int) := by omega
        have hk51 : k ≤ 51 := by omega
        by_cases hk0 : k = 0
        · subst hk0
          go_wp2_with fail
          go_ret
          exact ⟨a', 0, c', as', p', z', rfl, by omega, HOW.out, by omega, HSr.out, HUr.out⟩
        have dk : ((k : Int) == 0) = false := by rw [beq_eq_false_iff_ne]; omega
        have hkp : 0 < k := by omega
        have hki : (0 : Int) < (k : Int) := by omega
        go_wp2_with fail
        refine (srcPick (k : Int) w0 _ b a n c p' z' xs (by omega) (by omega) (by omega) HL.out HO.out HR.out HSr.out).mono ?_
        rintro e w6 ⟨v6, p6, z6, rfl, hv6, hx6, hp6, hs6, hu6⟩
        have HW6 := Lib.hid (HOW.out.draw HSr.out hs6 hu6 HBL.out)
        have HS6 := Lib.hid hs6
        have HU6 := Lib.hid (HUr.out.trans hu6)
        clear hs6 hu6
        obtain ⟨i, rfl⟩ : ∃ i : Nat, v6 = i := ⟨v6.toNat, by omega⟩
        have hi : i < k := by omega
        obtain ⟨g, rfl, hg0, hg1⟩ := HW6.out.at_ (by omega)
        have HGB := Lib.hid hg0
        go_wp2_with fail
        refine (srcPick 16 w0 _ b a n c p6 z6 xs (by omega) (by omega) (by omega) HL.out HO.out HR.out HS6.out).mono ?_
        rintro e w7 ⟨v7, p7, z7, rfl, hv7, hx7, hp7, hs7, hu7⟩
        have HW7 := Lib.hid (HW6.out.draw HS6.out hs7 hu7 HBL.out)
        have HS7 := Lib.hid hs7
        have HU7 := Lib.hid (HU6.out.trans hu7)
        clear hs7 hu7
        have hw7 : w.heap.size ≤ w7.heap.size := HU7.out.size
        have hb7 : b < w7.heap.size := Nat.lt_of_lt_of_le HBL.out hw7
        have hlen := HW7.out.len Alt.len (by decide)
        by_cases h0 : v7 = 0
        · subst h0
          obtain ⟨m, rfl⟩ : ∃ m, k = m + 1 := ⟨k - 1, by omega⟩
          obtain ⟨x, hx, _⟩ := take_snoc' as' m (by rw [hlen]; omega)
          have HX := Lib.hid hx
          have hm : m < m + 1 := Nat.lt_succ_self m
          clear hx hlen
          have hs9 : w.heap.size ≤ w7.heap.size := HU7.out.size
          have he0 : Hid ((Alt.enc x).set 1 (.int .i64 (-1)) = Alt.enc ⟨x.beg, -1, x.peak⟩) := Lib.hid rfl
          obtain ⟨ys, hys⟩ : ∃ ys, as'.set m ⟨x.beg, -1, x.peak⟩ = ys := ⟨_, rfl⟩
          have HY := Lib.hid hys
          clear hys
          go_wp2_with (with_reducible refine wpl_setf Alt.len (by decide) _ rfl 2 (.tmp 62) (.const (.int .i64 (-1))) rfl g (m * 3 + 1) rfl (.int .i64 (-1)) rfl (cells_i _) (one_i _) ?s1 w.heap.size 60 (m + 1) c' m 1 as' HW7.out x ⟨x.beg, -1, x.peak⟩ HX (by decide) he0 rfl w.heap.size HGB.out hs9 ys HY ?_)
          case s1 => kernel_rfl
          intro w9 ho9 hb9 hg9
          have HW9 := Lib.hid ho9
          have HS9 := Lib.hid (HS7.out.belowN hb9 HBL.out)
          have HU9 := Lib.hid (HU7.out.ofBelow hb9)
          clear ho9 hb9 hg9
          go_wp2_with fail
          go_ret
          exact ⟨some ⟨g, 0, none⟩, m + 1, c', ys, p7, z7, rfl, by omega, HW9.out, by omega, HS9.out, HU9.out⟩
        have d0 := not_eq0 h0
        obtain ⟨x, hx, _⟩ := take_snoc' as' i (by rw [hlen]; exact hi)
        have HX := Lib.hid hx
        clear hx hlen
        by_cases h1 : v7 = 1
        · subst h1
          clear h0 d0
          have HCa := CAt.new w7 #[.int .i64 (-1), .int .i64 0, .int .i64 x.fin, .int .i64 10000001] 2
          have HSAa := HS7.out.alloc' (.cells #[.int .i64 (-1), .int .i64 0, .int .i64 x.fin, .int .i64 10000001] 2)
          have HBAa := Lib.hid ((Below.refl w7.heap.size w7).alloc (Nat.le_refl _) (.cells #[.int .i64 (-1), .int .i64 0, .int .i64 x.fin, .int .i64 10000001] 2))
          have CAa : Hid (Calls Tryd.prog 46 #[.pointer (some ⟨b, 0, none⟩), .slice (some ⟨w7.heap.size, 0, none⟩) 4 4] (w7.alloc (.cells #[.int .i64 (-1), .int .i64 0, .int .i64 x.fin, .int .i64 10000001] 2)) fun e w' => ∃ v p' z', e = .returned (.int .i64 v) ∧ v ∈ ([-1, 0, x.fin, 10000001] : List Int) ∧ p' ≤ p7 + 2 ∧ SrcAt w0 w' b a n c p' z' ∧ But b (w7.alloc (.cells #[.int .i64 (-1), .int .i64 0, .int .i64 x.fin, .int .i64 10000001] 2)) w') := Lib.hid (srcAmong [-1, 0, x.fin, 10000001] w7.heap.size 4 2 w0 _ b a n c p7 z7 xs (by omega) (by omega) rfl HCa (by omega) (by omega) HL.out HO.out HR.out HSAa)
          have HSBa := Lib.hid HSAa
          clear HCa HSAa
          have xc : w7.cell? ⟨g, i * 3 + 1, none⟩ = some (.int .i64 x.fin) := by
            obtain ⟨b9, o9, hab9, _, hc9⟩ := (HW7.out.rd Alt.len (by decide)) i x HX.out
            simp only [Option.some.injEq, Addr.mk.injEq, and_true] at hab9
            obtain ⟨rfl, rfl⟩ := hab9
            have hz := hc9 1 _ rfl
            rw [Nat.zero_add] at hz
            exact hz
          have HWa := Lib.hid (HW7.out.below HBAa.out)
          have HUa := Lib.hid (HU7.out.ofN HBAa.out hw7)
          clear HBAa
          go_wp2_with fail
          refine CAa.out.mono ?_
          rintro e w8 ⟨v8, p8, z8, rfl, hv8, hp8, hs8, hu8⟩
          have HW8 := Lib.hid (HWa.out.draw HSBa.out hs8 hu8 HBL.out)
          have HU8 := Lib.hid (HUa.out.trans hu8)
          have HS8 := Lib.hid hs8
          clear hs8 hu8 hv8 CAa HWa HUa HSBa xc
          have hs9 : w.heap.size ≤ w8.heap.size := HU8.out.size
          have he0 : Hid ((Alt.enc x).set 0 (.int .i64 v8) = Alt.enc ⟨v8, x.fin, x.peak⟩) := Lib.hid rfl
          obtain ⟨ys, hys⟩ : ∃ ys, as'.set i ⟨v8, x.fin, x.peak⟩ = ys := ⟨_, rfl⟩
          have HY := Lib.hid hys
          clear hys
          go_wp2_with (with_reducible refine wpl_setf Alt.len (by decide) _ rfl 2 (.tmp 74) (.tmp 72) rfl g (i * 3) rfl (.int .i64 v8) rfl (cells_i _) (one_i _) ?s1 w.heap.size 60 k c' i 0 as' HW8.out x ⟨v8, x.fin, x.peak⟩ HX (by decide) he0 rfl w.heap.size HGB.out hs9 ys HY ?_)
          case s1 => kernel_rfl
          intro w9 ho9 hb9 hg9
          have HW9 := Lib.hid ho9
          have HS9 := Lib.hid (HS8.out.belowN hb9 HBL.out)
          have HU9 := Lib.hid (HU8.out.ofBelow hb9)
          clear ho9 hb9 hg9
          go_wp2_with fail
          go_ret
          exact ⟨some ⟨g, 0, none⟩, k, c', ys, p8, z8, rfl, by omega, HW9.out, by omega, HS9.out, HU9.out⟩
        have d1 := not_eq0 h1
        by_cases h2 : v7 = 2
        · subst h2
          clear h0 d0 h1 d1
          have HCa := CAt.new w7 #[.int .i64 (-2), .int .i64 (-1), .int .i64 x.beg, .int .i64 10000000, .int .i64 10000001] 2
          have HSAa := HS7.out.alloc' (.cells #[.int .i64 (-2), .int .i64 (-1), .int .i64 x.beg, .int .i64 10000000, .int .i64 10000001] 2)
          have HBAa := Lib.hid ((Below.refl w7.heap.size w7).alloc (Nat.le_refl _) (.cells #[.int .i64 (-2), .int .i64 (-1), .int .i64 x.beg, .int .i64 10000000, .int .i64 10000001] 2))
          have CAa : Hid (Calls Tryd.prog 46 #[.pointer (some ⟨b, 0, none⟩), .slice (some ⟨w7.heap.size, 0, none⟩) 5 5] (w7.alloc (.cells #[.int .i64 (-2), .int .i64 (-1), .int .i64 x.beg, .int .i64 10000000, .int .i64 10000001] 2)) fun e w' => ∃ v p' z', e = .returned (.int .i64 v) ∧ v ∈ ([-2, -1, x.beg, 10000000, 10000001] : List Int) ∧ p' ≤ p7 + 2 ∧ SrcAt w0 w' b a n c p' z' ∧ But b (w7.alloc (.cells #[.int .i64 (-2), .int .i64 (-1), .int .i64 x.beg, .int .i64 10000000, .int .i64 10000001] 2)) w') := Lib.hid (srcAmong [-2, -1, x.beg, 10000000, 10000001] w7.heap.size 5 2 w0 _ b a n c p7 z7 xs (by omega) (by omega) rfl HCa (by omega) (by omega) HL.out HO.out HR.out HSAa)
          have HSBa := Lib.hid HSAa
          clear HCa HSAa
          have xc : w7.cell? ⟨g, i * 3, none⟩ = some (.int .i64 x.beg) := by
            obtain ⟨b9, o9, hab9, _, hc9⟩ := (HW7.out.rd Alt.len (by decide)) i x HX.out
            simp only [Option.some.injEq, Addr.mk.injEq, and_true] at hab9
            obtain ⟨rfl, rfl⟩ := hab9
            have hz := hc9 0 _ rfl
            rw [Nat.zero_add] at hz
            exact hz
          have HWa := Lib.hid (HW7.out.below HBAa.out)
          have HUa := Lib.hid (HU7.out.ofN HBAa.out hw7)
          clear HBAa
          go_wp2_with fail
          refine CAa.out.mono ?_
          rintro e w8 ⟨v8, p8, z8, rfl, hv8, hp8, hs8, hu8⟩
          have HW8 := Lib.hid (HWa.out.draw HSBa.out hs8 hu8 HBL.out)
          have HU8 := Lib.hid (HUa.out.trans hu8)
          have HS8 := Lib.hid hs8
          clear hs8 hu8 hv8 CAa HWa HUa HSBa xc
          have hs9 : w.heap.size ≤ w8.heap.size := HU8.out.size
          have he0 : Hid ((Alt.enc x).set 1 (.int .i64 v8) = Alt.enc ⟨x.beg, v8, x.peak⟩) := Lib.hid rfl
          obtain ⟨ys, hys⟩ : ∃ ys, as'.set i ⟨x.beg, v8, x.peak⟩ = ys := ⟨_, rfl⟩
          have HY := Lib.hid hys
          clear hys
          go_wp2_with (with_reducible refine wpl_setf Alt.len (by decide) _ rfl 2 (.tmp 86) (.tmp 84) rfl g (i * 3 + 1) rfl (.int .i64 v8) rfl (cells_i _) (one_i _) ?s1 w.heap.size 60 k c' i 1 as' HW8.out x ⟨x.beg, v8, x.peak⟩ HX (by decide) he0 rfl w.heap.size HGB.out hs9 ys HY ?_)
          case s1 => kernel_rfl
          intro w9 ho9 hb9 hg9
          have HW9 := Lib.hid ho9
          have HS9 := Lib.hid (HS8.out.belowN hb9 HBL.out)
          have HU9 := Lib.hid (HU8.out.ofBelow hb9)
          clear ho9 hb9 hg9
          go_wp2_with fail
          go_ret
          exact ⟨some ⟨g, 0, none⟩, k, c', ys, p8, z8, rfl, by omega, HW9.out, by omega, HS9.out, HU9.out⟩
        have d2 := not_eq0 h2
        by_cases h3 : v7 = 3
        · subst h3
          clear h0 d0 h1 d1 h2 d2
          go_wp2_with fail
          refine (l02Bent_any w0 _ b a n c p7 z7 xs (by omega) HL.out HO.out HR.out HS7.out).mono ?_
          rintro e w8 ⟨v8, p8, z8, rfl, hv8, hp8, hs8, hu8⟩
          have HW8 := Lib.hid (HW7.out.draw HS7.out hs8 hu8 HBL.out)
          have HU8 := Lib.hid (HU7.out.trans hu8)
          have HS8 := Lib.hid hs8
          clear hs8 hu8
          have hs9 : w.heap.size ≤ w8.heap.size := HU8.out.size
          have he0 : Hid ((Alt.enc x).set 2 (.int .i64 v8) = Alt.enc ⟨x.beg, x.fin, v8⟩) := Lib.hid rfl
          obtain ⟨ys, hys⟩ : ∃ ys, as'.set i ⟨x.beg, x.fin, v8⟩ = ys := ⟨_, rfl⟩
          have HY := Lib.hid hys
          clear hys
          go_wp2_with (with_reducible refine wpl_setf Alt.len (by decide) _ rfl 2 (.tmp 93) (.tmp 91) rfl g (i * 3 + 2) rfl (.int .i64 v8) rfl (cells_i _) (one_i _) ?s1 w.heap.size 60 k c' i 2 as' HW8.out x ⟨x.beg, x.fin, v8⟩ HX (by decide) he0 rfl w.heap.size HGB.out hs9 ys HY ?_)
          case s1 => kernel_rfl
          intro w9 ho9 hb9 hg9
          have HW9 := Lib.hid ho9
          have HS9 := Lib.hid (HS8.out.belowN hb9 HBL.out)
          have HU9 := Lib.hid (HU8.out.ofBelow hb9)
          clear ho9 hb9 hg9
          go_wp2_with fail
          go_ret
          exact ⟨some ⟨g, 0, none⟩, k, c', ys, p8, z8, rfl, by omega, HW9.out, by omega, HS9.out, HU9.out⟩
        have d3 := not_eq0 h3
        go_wp2_with fail
        go_ret
        exact ⟨some ⟨g, 0, none⟩, k, c', as', p7, z7, rfl, by omega, HW7.out, by omega, HS7.out, HU7.out⟩
  | false =>
    go_wp2_with fail
    go_loopw [3, 4, 6] (fun l am kk wr => ∃ (j : Nat) (A K : Int) (a' : Option Addr) (c' : Nat) (as' : List Alt) (p' : Nat) (z' : Int), kk = .int .i64 K ∧ 0 ≤ K ∧ K + j = v2 ∧ am = .int .i64 A ∧ 0 ≤ A ∧ A ≤ 60 + 110 * (j : Int) ∧ l = .slice a' j c' ∧ Hid (Ow Alt.enc 3 wr w.heap.size 60 (.slice a' j c') j as') ∧ p' ≤ p + 8 + 6 * j ∧ Hid (SrcAt w0 wr b a n c p' z') ∧ Hid (But b w wr)) (fun _ _ kk _ => (intOf kk).toNat)
    case atStart => exact ⟨0, _, v2, _, _, [], p3, z3, rfl, by omega, by omega, rfl, by omega, by omega, rfl, HW3, by omega, HS3, HU3⟩
    case round =>
      obtain ⟨j, A, K, a', c', as', p', z', rfl, hK0, hKj, rfl, hA0, hA1, rfl, HOW, hp', HSr, HUr⟩ := hrel
      by_cases hlt : 0 < K
      · have hj51 : j ≤ 51 := by omega
        go_wp2_with fail
        refine (srcPick 40 w0 _ b a n c p' z' xs (by omega) (by omega) (by omega) HL.out HO.out HR.out HSr.out).mono ?_
        rintro e w11 ⟨v11, p11, z11, rfl, hv11, hx11, hp11, hs11, hu11⟩
        have HW11 := Lib.hid (HOW.out.draw HSr.out hs11 hu11 HBL.out)
        have HS11 := Lib.hid hs11
        have HU11 := Lib.hid (HUr.out.trans hu11)
        clear hs11 hu11
        obtain ⟨E, hE⟩ : ∃ E, A + 1 + v11 = E := ⟨_, rfl⟩
        have hE0 : A + 1 ≤ E ∧ E ≤ A + 40 := by omega
        have i1 : IntKind.i64.wrap (A + 1) = A + 1 := IntWalk.i64_in _ (by omega)
        have i2 : IntKind.i64.wrap (A + 1 + v11) = E := by rw [hE]; exact IntWalk.i64_in _ (by omega)
        have HCN := Lib.hid (CAt.new w11 #[.int .i64 A, .int .i64 E, .int .i64 0] 60)
        have HBX := Lib.hid ((Below.refl w11.heap.size w11).alloc (Nat.le_refl _) (.cells #[.int .i64 A, .int .i64 E, .int .i64 0] 60))
        have hw11 : w.heap.size ≤ w11.heap.size := HU11.out.size
        have HWX := Lib.hid (HW11.out.below HBX.out)
        have HSX := Lib.hid (HS11.out.alloc' (.cells #[.int .i64 A, .int .i64 E, .int .i64 0] 60))
        have HUX : Hid (But b w (w11.alloc (.cells #[.int .i64 A, .int .i64 E, .int .i64 0] 60))) := Lib.hid (HU11.out.ofN HBX.out hw11)
        have HNE : Hid ((Value.slice a' j c').ownBlock ≠ some w11.heap.size) := Lib.hid fun he => by have := (HW11.out.lt _ he).2; omega
        clear hE HBX
        go_upto_region 10 with (fail)
        obtain ⟨wX, hwX⟩ : ∃ wX, w11.alloc (.cells #[.int .i64 A, .int .i64 E, .int .i64 0] 60) = wX := ⟨_, rfl⟩
        obtain ⟨gx, hgx⟩ : ∃ gx, w11.heap.size = gx := ⟨_, rfl⟩
        rw [hwX] at HCN HWX HSX HUX ⊢
        rw [hgx] at HCN HNE hw11 ⊢
        have hbg : b ≠ gx := by have := HBL.out; omega
        clear hwX hgx i1 i2
        go_wp2_with fail
        refine (srcPick 90 w0 _ b a n c p11 z11 xs (by omega) (by omega) (by omega) HL.out HO.out HR.out HSX.out).mono ?_
        rintro e w12 ⟨v12, p12, z12, rfl, hv12, hx12, hp12, hs12, hu12⟩
        have HW12 := Lib.hid (HWX.out.draw HSX.out hs12 hu12 HBL.out)
        have HC12 := Lib.hid (HCN.out.but hu12 (Ne.symm hbg))
        have HS12 := Lib.hid hs12
        have HU12 := Lib.hid (HUX.out.trans hu12)
        clear hs12 hu12
        obtain ⟨P, hP⟩ : ∃ P, 8000 + 10 * v12 = P := ⟨_, rfl⟩
        have i1 : IntKind.i64.wrap (10 * v12) = 10 * v12 := IntWalk.i64_in _ (by omega)
        have i2 : IntKind.i64.wrap (8000 + 10 * v12) = P := by rw [hP]; exact IntWalk.i64_in _ (by omega)
        have k0 : w12.cell? ⟨gx, 2, none⟩ = some (.int .i64 0) := HC12.out.cell 2
        have kf := HC12.out.free 2
        have HC13 := Lib.hid (HC12.out.set 2 (.int .i64 P))
        have HS13 := Lib.hid (HS12.out.setG hbg (by have := HS12.out.base; have := HBL.out; omega) 2 (.int .i64 P))
        have HU13 := Lib.hid (HU12.out.setG hw11 2 (.int .i64 P))
        have HW13 : Hid (Ow Alt.enc 3 (w12.setCell ⟨gx, 2, none⟩ (.int .i64 P)) w.heap.size 60 (.slice a' j c') j as') := Lib.hid (HW12.out.same fun q hq => Below.heap_setCell _ _ _ _ (by intro he; exact HNE.out (by rw [hq]; exact congrArg some he)))
        clear hP
        go_upto_region 11 with (fail)
        obtain ⟨w13, hw13⟩ : ∃ w13, w12.setCell ⟨gx, 2, none⟩ (.int .i64 P) = w13 := ⟨_, rfl⟩
        rw [hw13] at HC13 HS13 HU13 HW13 ⊢
        clear hw13 k0 kf i1 i2
        have x0 : w13.cell? ⟨gx, 0, none⟩ = some (.int .i64 A) := HC13.out.cell 0
        have x1 : w13.cell? ⟨gx, 1, none⟩ = some (.int .i64 E) := HC13.out.cell 1
        have x2 : w13.cell? ⟨gx, 2, none⟩ = some (.int .i64 P) := HC13.out.cell 2
        have h63 : j + 1 ≤ maxLen := by unfold maxLen; omega
        have hby : (j + 1) * 24 ≤ 140737488355328 := by omega
        have hbs : w.heap.size ≤ w13.heap.size := HU13.out.size
        have hgl : gx < w13.heap.size := HC13.out.lt
        obtain ⟨ys, hys⟩ : ∃ ys, as' ++ [(⟨A, E, P⟩ : Alt)] = ys := ⟨_, rfl⟩
        have HYS := Lib.hid hys
        clear hys
        go_wp2_with (at_builtin; refine wpl_appH Alt.len (by decide) _ rfl (.tmp 36) (.tmp 38) 51 rfl 60 _ 24 rfl Tryd.underlying51 infoA w.heap.size _ j _ rfl w13 _ _ rfl HW13.out (⟨A, E, P⟩ : Alt) rfl rfl (Alt.one _) h63 hby hbs ys HYS ?_)
        intro a4 c4 w14 ho14 hb14 hs14 hk14
        have HW14 := Lib.hid ho14
        have HC14 := Lib.hid (HC13.out.keep hk14 HNE.out)
        have HS14 := Lib.hid (HS13.out.belowN hb14 HBL.out)
        have HU14 := Lib.hid (HU13.out.ofBelow hb14)
        clear ho14 hb14 hk14 x0 x1 x2 h63 hby
        have x1 : w14.cell? ⟨gx, 1, none⟩ = some (.int .i64 E) := HC14.out.cell 1
        have i3 : IntKind.i64.wrap (E + 1) = E + 1 := IntWalk.i64_in _ (by omega)
        have HSd := Lib.hid HS14.out.drew
        have HCd := Lib.hid HC14.out.drewS
        go_upto_region 12 with (fail)
        go_region_held3 (fun wq : World => wq.cell? ⟨gx, 1, none⟩ = some (.int .i64 E)) (first | exact HCd.out.cell 1 | exact HC15.out.cell 1 | (go_keep; done) | fail)
          (first
            | (go_at_call 45; (with_reducible refine (srcPick 60 w0 _ b a n c p12 z12 xs (by omega) (by omega) (by omega) HL.out HO.out HR.out HSd.out).mono ?_); rintro e w15 ⟨v15, p15, z15, rfl, hv15, hx15, hp15, hs15, hu15⟩; have HC15 := Lib.hid (HCd.out.but hu15 (Ne.symm hbg)); have HW15 := Lib.hid (HW14.out.draw HS14.out hs15 hu15.ofDrew HBL.out); have HU15 := Lib.hid (HU14.out.trans hu15.ofDrew); have HS15 := Lib.hid hs15; clear hs15 hu15; have i4 : IntKind.i64.wrap (E + 1 + v15) = E + 1 + v15 := IntWalk.i64_in _ (by omega)))
        clear x1
        go_wp2_with fail
        go_roundw
        case rel => exact ⟨j + 1, _, K - 1, a4, c4, ys, p15, z15, rfl, by omega, by omega, rfl, by omega, by omega, rfl, HW15, by omega, HS15, HU15⟩
        case measure => simp [intOf]; omega
      · obtain rfl : K = 0 := by omega
        obtain ⟨k, hk⟩ : ∃ k : Nat, k = j := ⟨_, rfl⟩
        subst hk
        obtain rfl : v2 = (k : Int) := by omega
        have hk51 : k ≤ 51 := by omega
        by_cases hk0 : k = 0
        · subst hk0
          go_wp2_with fail
          go_ret
          exact ⟨a', 0, c', as', p', z', rfl, by omega, HOW.out, by omega, HSr.out, HUr.out⟩
        have dk : ((k : Int) == 0) = false := by rw [beq_eq_false_iff_ne]; omega
        have hkp : 0 < k := by omega
        have hki : (0 : Int) < (k : Int) := by omega
        go_wp2_with fail
        refine (srcPick (k : Int) w0 _ b a n c p' z' xs (by omega) (by omega) (by omega) HL.out HO.out HR.out HSr.out).mono ?_
        rintro e w6 ⟨v6, p6, z6, rfl, hv6, hx6, hp6, hs6, hu6⟩
        have HW6 := Lib.hid (HOW.out.draw HSr.out hs6 hu6 HBL.out)
        have HS6 := Lib.hid hs6
        have HU6 := Lib.hid (HUr.out.trans hu6)
        clear hs6 hu6
        obtain ⟨i, rfl⟩ : ∃ i : Nat, v6 = i := ⟨v6.toNat, by omega⟩
        have hi : i < k := by omega
        obtain ⟨g, rfl, hg0, hg1⟩ := HW6.out.at_ (by omega)
        have HGB := Lib.hid hg0
        go_wp2_with fail
        refine (srcPick 16 w0 _ b a n c p6 z6 xs (by omega) (by omega) (by omega) HL.out HO.out HR.out HS6.out).mono ?_
        rintro e w7 ⟨v7, p7, z7, rfl, hv7, hx7, hp7, hs7, hu7⟩
        have HW7 := Lib.hid (HW6.out.draw HS6.out hs7 hu7 HBL.out)
        have HS7 := Lib.hid hs7
        have HU7 := Lib.hid (HU6.out.trans hu7)
        clear hs7 hu7
        have hw7 : w.heap.size ≤ w7.heap.size := HU7.out.size
        have hb7 : b < w7.heap.size := Nat.lt_of_lt_of_le HBL.out hw7
        have hlen := HW7.out.len Alt.len (by decide)
        by_cases h0 : v7 = 0
        · subst h0
          obtain ⟨m, rfl⟩ : ∃ m, k = m + 1 := ⟨k - 1, by omega⟩
          obtain ⟨x, hx, _⟩ := take_snoc' as' m (by rw [hlen]; omega)
          have HX := Lib.hid hx
          have hm : m < m + 1 := Nat.lt_succ_self m
          clear hx hlen
          have hs9 : w.heap.size ≤ w7.heap.size := HU7.out.size
          have he0 : Hid ((Alt.enc x).set 1 (.int .i64 (-1)) = Alt.enc ⟨x.beg, -1, x.peak⟩) := Lib.hid rfl
          obtain ⟨ys, hys⟩ : ∃ ys, as'.set m ⟨x.beg, -1, x.peak⟩ = ys := ⟨_, rfl⟩
          have HY := Lib.hid hys
          clear hys
          go_wp2_with (with_reducible refine wpl_setf Alt.len (by decide) _ rfl 2 (.tmp 62) (.const (.int .i64 (-1))) rfl g (m * 3 + 1) rfl (.int .i64 (-1)) rfl (cells_i _) (one_i _) ?s1 w.heap.size 60 (m + 1) c' m 1 as' HW7.out x ⟨x.beg, -1, x.peak⟩ HX (by decide) he0 rfl w.heap.size HGB.out hs9 ys HY ?_)
          case s1 => kernel_rfl
          intro w9 ho9 hb9 hg9
          have HW9 := Lib.hid ho9
          have HS9 := Lib.hid (HS7.out.belowN hb9 HBL.out)
          have HU9 := Lib.hid (HU7.out.ofBelow hb9)
          clear ho9 hb9 hg9
          go_wp2_with fail
          go_ret
          exact ⟨some ⟨g, 0, none⟩, m + 1, c', ys, p7, z7, rfl, by omega, HW9.out, by omega, HS9.out, HU9.out⟩
        have d0 := not_eq0 h0
        obtain ⟨x, hx, _⟩ := take_snoc' as' i (by rw [hlen]; exact hi)
        have HX := Lib.hid hx
        clear hx hlen
        by_cases h1 : v7 = 1
        · subst h1
          clear h0 d0
          have HCa := CAt.new w7 #[.int .i64 (-1), .int .i64 0, .int .i64 x.fin, .int .i64 10000001] 2
          have HSAa := HS7.out.alloc' (.cells #[.int .i64 (-1), .int .i64 0, .int .i64 x.fin, .int .i64 10000001] 2)
          have HBAa := Lib.hid ((Below.refl w7.heap.size w7).alloc (Nat.le_refl _) (.cells #[.int .i64 (-1), .int .i64 0, .int .i64 x.fin, .int .i64 10000001] 2))
          have CAa : Hid (Calls Tryd.prog 46 #[.pointer (some ⟨b, 0, none⟩), .slice (some ⟨w7.heap.size, 0, none⟩) 4 4] (w7.alloc (.cells #[.int .i64 (-1), .int .i64 0, .int .i64 x.fin, .int .i64 10000001] 2)) fun e w' => ∃ v p' z', e = .returned (.int .i64 v) ∧ v ∈ ([-1, 0, x.fin, 10000001] : List Int) ∧ p' ≤ p7 + 2 ∧ SrcAt w0 w' b a n c p' z' ∧ But b (w7.alloc (.cells #[.int .i64 (-1), .int .i64 0, .int .i64 x.fin, .int .i64 10000001] 2)) w') := Lib.hid (srcAmong [-1, 0, x.fin, 10000001] w7.heap.size 4 2 w0 _ b a n c p7 z7 xs (by omega) (by omega) rfl HCa (by omega) (by omega) HL.out HO.out HR.out HSAa)
          have HSBa := Lib.hid HSAa
          clear HCa HSAa
          have xc : w7.cell? ⟨g, i * 3 + 1, none⟩ = some (.int .i64 x.fin) := by
            obtain ⟨b9, o9, hab9, _, hc9⟩ := (HW7.out.rd Alt.len (by decide)) i x HX.out
            simp only [Option.some.injEq, Addr.mk.injEq, and_true] at hab9
            obtain ⟨rfl, rfl⟩ := hab9
            have hz := hc9 1 _ rfl
            rw [Nat.zero_add] at hz
            exact hz
          have HWa := Lib.hid (HW7.out.below HBAa.out)
          have HUa := Lib.hid (HU7.out.ofN HBAa.out hw7)
          clear HBAa
          go_wp2_with fail
          refine CAa.out.mono ?_
          rintro e w8 ⟨v8, p8, z8, rfl, hv8, hp8, hs8, hu8⟩
          have HW8 := Lib.hid (HWa.out.draw HSBa.out hs8 hu8 HBL.out)
          have HU8 := Lib.hid (HUa.out.trans hu8)
          have HS8 := Lib.hid hs8
          clear hs8 hu8 hv8 CAa HWa HUa HSBa xc
          have hs9 : w.heap.size ≤ w8.heap.size := HU8.out.size
          have he0 : Hid ((Alt.enc x).set 0 (.int .i64 v8) = Alt.enc ⟨v8, x.fin, x.peak⟩) := Lib.hid rfl
          obtain ⟨ys, hys⟩ : ∃ ys, as'.set i ⟨v8, x.fin, x.peak⟩ = ys := ⟨_, rfl⟩
          have HY := Lib.hid hys
          clear hys
          go_wp2_with (with_reducible refine wpl_setf Alt.len (by decide) _ rfl 2 (.tmp 74) (.tmp 72) rfl g (i * 3) rfl (.int .i64 v8) rfl (cells_i _) (one_i _) ?s1 w.heap.size 60 k c' i 0 as' HW8.out x ⟨v8, x.fin, x.peak⟩ HX (by decide) he0 rfl w.heap.size HGB.out hs9 ys HY ?_)
          case s1 => kernel_rfl
          intro w9 ho9 hb9 hg9
          have HW9 := Lib.hid ho9
          have HS9 := Lib.hid (HS8.out.belowN hb9 HBL.out)
          have HU9 := Lib.hid (HU8.out.ofBelow hb9)
          clear ho9 hb9 hg9
          go_wp2_with fail
          go_ret
          exact ⟨some ⟨g, 0, none⟩, k, c', ys, p8, z8, rfl, by omega, HW9.out, by omega, HS9.out, HU9.out⟩
        have d1 := not_eq0 h1
        by_cases h2 : v7 = 2
        · subst h2
          clear h0 d0 h1 d1
          have HCa := CAt.new w7 #[.int .i64 (-2), .int .i64 (-1), .int .i64 x.beg, .int .i64 10000000, .int .i64 10000001] 2
          have HSAa := HS7.out.alloc' (.cells #[.int .i64 (-2), .int .i64 (-1), .int .i64 x.beg, .int .i64 10000000, .int .i64 10000001] 2)
          have HBAa := Lib.hid ((Below.refl w7.heap.size w7).alloc (Nat.le_refl _) (.cells #[.int .i64 (-2), .int .i64 (-1), .int .i64 x.beg, .int .i64 10000000, .int .i64 10000001] 2))
          have CAa : Hid (Calls Tryd.prog 46 #[.pointer (some ⟨b, 0, none⟩), .slice (some ⟨w7.heap.size, 0, none⟩) 5 5] (w7.alloc (.cells #[.int .i64 (-2), .int .i64 (-1), .int .i64 x.beg, .int .i64 10000000, .int .i64 10000001] 2)) fun e w' => ∃ v p' z', e = .returned (.int .i64 v) ∧ v ∈ ([-2, -1, x.beg, 10000000, 10000001] : List Int) ∧ p' ≤ p7 + 2 ∧ SrcAt w0 w' b a n c p' z' ∧ But b (w7.alloc (.cells #[.int .i64 (-2), .int .i64 (-1), .int .i64 x.beg, .int .i64 10000000, .int .i64 10000001] 2)) w') := Lib.hid (srcAmong [-2, -1, x.beg, 10000000, 10000001] w7.heap.size 5 2 w0 _ b a n c p7 z7 xs (by omega) (by omega) rfl HCa (by omega) (by omega) HL.out HO.out HR.out HSAa)
          have HSBa := Lib.hid HSAa
          clear HCa HSAa
          have xc : w7.cell? ⟨g, i * 3, none⟩ = some (.int .i64 x.beg) := by
            obtain ⟨b9, o9, hab9, _, hc9⟩ := (HW7.out.rd Alt.len (by decide)) i x HX.out
            simp only [Option.some.injEq, Addr.mk.injEq, and_true] at hab9
            obtain ⟨rfl, rfl⟩ := hab9
            have hz := hc9 0 _ rfl
            rw [Nat.zero_add] at hz
            exact hz
          have HWa := Lib.hid (HW7.out.below HBAa.out)
          have HUa := Lib.hid (HU7.out.ofN HBAa.out hw7)
          clear HBAa
          go_wp2_with fail
          refine CAa.out.mono ?_
          rintro e w8 ⟨v8, p8, z8, rfl, hv8, hp8, hs8, hu8⟩
          have HW8 := Lib.hid (HWa.out.draw HSBa.out hs8 hu8 HBL.out)
          have HU8 := Lib.hid (HUa.out.trans hu8)
          have HS8 := Lib.hid hs8
          clear hs8 hu8 hv8 CAa HWa HUa HSBa xc
          have hs9 : w.heap.size ≤ w8.heap.size := HU8.out.size
          have he0 : Hid ((Alt.enc x).set 1 (.int .i64 v8) = Alt.enc ⟨x.beg, v8, x.peak⟩) := Lib.hid rfl
          obtain ⟨ys, hys⟩ : ∃ ys, as'.set i ⟨x.beg, v8, x.peak⟩ = ys := ⟨_, rfl⟩
          have HY := Lib.hid hys
          clear hys
          go_wp2_with (with_reducible refine wpl_setf Alt.len (by decide) _ rfl 2 (.tmp 86) (.tmp 84) rfl g (i * 3 + 1) rfl (.int .i64 v8) rfl (cells_i _) (one_i _) ?s1 w.heap.size 60 k c' i 1 as' HW8.out x ⟨x.beg, v8, x.peak⟩ HX (by decide) he0 rfl w.heap.size HGB.out hs9 ys HY ?_)
          case s1 => kernel_rfl
          intro w9 ho9 hb9 hg9
          have HW9 := Lib.hid ho9
          have HS9 := Lib.hid (HS8.out.belowN hb9 HBL.out)
          have HU9 := Lib.hid (HU8.out.ofBelow hb9)
          clear ho9 hb9 hg9
          go_wp2_with fail
          go_ret
          exact ⟨some ⟨g, 0, none⟩, k, c', ys, p8, z8, rfl, by omega, HW9.out, by omega, HS9.out, HU9.out⟩
        have d2 := not_eq0 h2
        by_cases h3 : v7 = 3
        · subst h3
          clear h0 d0 h1 d1 h2 d2
          go_wp2_with fail
          refine (l02Bent_any w0 _ b a n c p7 z7 xs (by omega) HL.out HO.out HR.out HS7.out).mono ?_
          rintro e w8 ⟨v8, p8, z8, rfl, hv8, hp8, hs8, hu8⟩
          have HW8 := Lib.hid (HW7.out.draw HS7.out hs8 hu8 HBL.out)
          have HU8 := Lib.hid (HU7.out.trans hu8)
          have HS8 := Lib.hid hs8
          clear hs8 hu8
          have hs9 : w.heap.size ≤ w8.heap.size := HU8.out.size
          have he0 : Hid ((Alt.enc x).set 2 (.int .i64 v8) = Alt.enc ⟨x.beg, x.fin, v8⟩) := Lib.hid rfl
          obtain ⟨ys, hys⟩ : ∃ ys, as'.set i ⟨x.beg, x.fin, v8⟩ = ys := ⟨_, rfl⟩
          have HY := Lib.hid hys
          clear hys
          go_wp2_with (with_reducible refine wpl_setf Alt.len (by decide) _ rfl 2 (.tmp 93) (.tmp 91) rfl g (i * 3 + 2) rfl (.int .i64 v8) rfl (cells_i _) (one_i _) ?s1 w.heap.size 60 k c' i 2 as' HW8.out x ⟨x.beg, x.fin, v8⟩ HX (by decide) he0 rfl w.heap.size HGB.out hs9 ys HY ?_)
          case s1 => kernel_rfl
          intro w9 ho9 hb9 hg9
          have HW9 := Lib.hid ho9
          have HS9 := Lib.hid (HS8.out.belowN hb9 HBL.out)
          have HU9 := Lib.hid (HU8.out.ofBelow hb9)
          clear ho9 hb9 hg9
          go_wp2_with fail
          go_ret
          exact ⟨some ⟨g, 0, none⟩, k, c', ys, p8, z8, rfl, by omega, HW9.out, by omega, HS9.out, HU9.out⟩
        have d3 := not_eq0 h3
        go_wp2_with fail
        go_ret
        exact ⟨some ⟨g, 0, none⟩, k, c', as', p7, z7, rfl, by omega, HW7.out, by omega, HS7.out, HU7.out⟩
open Go.RowKit
set_option maxRecDepth 100000
def AskJ (w : World) (e : Ending) (w' : World) : Prop := ∃ (a' : Option Addr) (k c' : Nat) (as' : List Alt) (d : Int), e = .returned (.tuple #[.slice a' k c', .int .i64 d]) ∧ k ≤ 51 ∧ as'.length = k ∧ Rd Alt.enc 3 w' a' as' ∧ (-1 ≤ d ∧ d ≤ 10000001) ∧ Below w.heap.size w w'
end Go.Proofs.YtjmojfbebcgjeaaDoor
