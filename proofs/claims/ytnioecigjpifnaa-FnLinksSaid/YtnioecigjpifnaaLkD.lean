/-
  Misfits: the program; lists of wrong links without one of them.
-/
import Derived.Test.YtnioecigjpifnaaLkC
import Derived.Deep.RegionHeld3
namespace Go.Proofs.Ytnioecigjpifnaa
open Go.RowKit
set_option maxRecDepth 100000
set_option linter.unusedVariables false
set_option linter.unusedSimpArgs false
theorem offs_small {n : Nat} {ls : List Lnk} (h5 : n ≤ 5) (hok : ∀ l ∈ ls, LkD2 n l) : ((lkJ n ls).N.all fun x => inB x (-100000) 100000) = true := by
  have hI := lkJ_ok (n := n) ls fun l hl => (hok l hl).1
  rw [List.all_eq_true]
  intro x hx
  obtain ⟨i, hi⟩ := List.getElem?_of_mem hx
  have hil := (List.getElem?_eq_some_iff.1 hi).1
  rw [hI.ln] at hil
  obtain ⟨r0, r1, r2, r3⟩ := hI.rt i hil
  have e : (lkJ n ls).N.getD i 0 = x := by simp [List.getD, hi]
  have hj : ((lkJ n ls).F.getD i 0).toNat < n := by omega
  have a := lkJ_small (n := n) (r := ls) (fun l hl => (hok l hl).1) (fun l hl => (hok l hl).2) hil hj r2.symm
  have b := lkJ_small (n := n) (r := ls) (fun l hl => (hok l hl).1) (fun l hl => (hok l hl).2) hj hil r2
  rw [r3, e] at a b
  exact inB_iff.2 ⟨by omega, by omega⟩
/-- a list as far as j, without its place k - 1 -/
def gnL (c : List Int) (k j : Nat) : List Int := if k = 0 then c.take j else (c.take j).eraseIdx (k - 1)
theorem gnL_zero (c : List Int) (k : Nat) : gnL c k 0 = [] := by unfold gnL; split <;> simp
theorem gnL_yes {c : List Int} {k j : Nat} {x : Int} (hx : c[j]? = some x) (hk : (j : Int) ≠ (k : Int) - 1) : gnL c k j ++ [x] = gnL c k (j + 1) := by
  unfold gnL
  have hj := (List.getElem?_eq_some_iff.1 hx).1
  have hl : (c.take j).length = j := by rw [List.length_take]; omega
  by_cases c0 : k = 0
  · rw [if_pos c0, if_pos c0, take_sn hx]
  · rw [if_neg c0, if_neg c0, take_sn hx]
    by_cases d : j < k - 1
    · rw [List.eraseIdx_of_length_le (by omega), List.eraseIdx_of_length_le (by rw [List.length_append, hl]; show j + 1 ≤ k - 1; omega)]
    · rw [List.eraseIdx_append_of_lt_length (by omega)]
theorem gnL_no {c : List Int} {k j : Nat} {x : Int} (hx : c[j]? = some x) (hk : (j : Int) = (k : Int) - 1) : gnL c k (j + 1) = gnL c k j := by
  unfold gnL
  have hj := (List.getElem?_eq_some_iff.1 hx).1
  have hl : (c.take j).length = j := by rw [List.length_take]; omega
  have e : k - 1 = j := by omega
  rw [if_neg (by omega), if_neg (by omega), take_sn hx, e, List.eraseIdx_append_of_length_le (show (c.take j).length ≤ j by omega), hl, Nat.sub_self, show [x].eraseIdx 0 = [] from rfl, List.append_nil, List.eraseIdx_of_length_le (show (c.take j).length ≤ j by omega)]
theorem gnL_all {c : List Int} {k n : Nat} (h : c.length = n) : gnL c k n = if k = 0 then c else c.eraseIdx (k - 1) := by
  unfold gnL; rw [List.take_of_length_le (by omega)]
theorem gnL_ok {st : Nat} {L : List Lnk} {r k : Nat} {c : List Int} (hf : FewQ st L r) (hm : c ∈ wrongL st L r) (hk : k ≤ r) : lkOkB st L (gnL c k r) = decide (k = 0) := by
  obtain ⟨h1, h2, h3⟩ := wrongL_mem.1 hm
  rw [gnL_all h1]
  by_cases c0 : k = 0
  · rw [if_pos c0, h3, decide_eq_true c0]
  · rw [if_neg c0, decide_eq_false c0]
    exact hf.less (risF_erase _ _ _ _ h2) (by rw [List.length_eraseIdx]; split <;> omega)
theorem sus_has {m : Nat} {W : List (List Int)} {c : List Int} {x : Int} (hc : c ∈ W) (hr : risF m 0 c) (hx : x ∈ c) : (whereL m (susB W)).contains x = true := by
  obtain ⟨i, hi⟩ := List.getElem?_of_mem hx
  obtain ⟨a, b⟩ := (risF_two _ hr).1 i x hi
  obtain ⟨q, rfl⟩ : ∃ q : Nat, x = q := ⟨x.toNat, by omega⟩
  have h1 : susB W q = true := by unfold susB; rw [List.any_eq_true]; exact ⟨c, hc, by simpa using hx⟩
  have h2 := whereL_count (susB W) q m
  rw [if_pos ⟨by omega, h1⟩] at h2
  have h3 : (q : Int) ∈ whereL m (susB W) := List.count_pos_iff.1 (by omega)
  simpa using h3
theorem sus_none {m : Nat} : whereL m (susB [[]]) = [] := by
  unfold whereL susB; simp
section
variable {α : Type} {enc : α → List Value} {k : Nat} {P : Program} {ops : Array Oper} {rest : List Oper} {o : Oper} {a : Act} {Q : Exit → Act → World → Prop}
theorem step_appH1 {K : Act → World → Prop} {E : Prop} (hk : ∀ x, (enc x).length = k) (h0 : 0 < k) (w : World) (hg : o.guard = none) (s xo : Operand) (t : TypeId) (hop : o.op = Op.call { callee := Callee.builtin Builtin.append, args := #[s, xo], argTypes := #[t, t] })
    (e : TypeId) (zv : Value) (bytes : Nat) (hzv : zv.cells.size = k) (h1 : P.underlying t = some (.slice e)) (hinfo : (P.info? e).map (fun i => (i.zero, i.size, i.bytes)) = some (some zv, k, bytes))
    (base : Nat) (v : Value) (n : Nat) (xs : List α) (hs : a.eval s = v) (w0 : World) (cs : Array Value) (e' : TypeId) (hw : w = w0.alloc (.cells cs e')) (hown : Ow enc k w0 base e v n xs) (x : α) (hx : a.eval xo = .slice (some ⟨w0.heap.size, 0, none⟩) 1 1) (hcs : cs = (enc x).toArray) (h1c : ∀ u ∈ enc x, u.oneCell' = true)
    (h63 : n + 1 ≤ maxLen) (hbytes : (n + 1) * bytes ≤ 140737488355328) (hbase : base ≤ w0.heap.size) (ys : List α) (hys : Hid (xs ++ [x] = ys))
    (hK : ∀ a' cap' w', Ow enc k w' base e (.slice a' (n + 1) cap') (n + 1) ys → Below base w0 w' → w0.heap.size < w'.heap.size → (∀ b, b < w0.heap.size → v.ownBlock ≠ some b → w'.heap[b]? = w0.heap[b]?) → K (a.put o.dst (.slice a' (n + 1) cap')) w') :
    if Region.wanted o (yielded ops a.tmps) = true then Oper.wp P o a w K Q else E := by
    rw [if_pos (by simp [Region.wanted, hg])]
    obtain ⟨i0, hi, hz0, hz1, hz2⟩ := info_parts hinfo
    subst hw
    refine wp_append_own _ s xo t hop base e i0 zv k bytes h1 hi hz0 hz1 hz2 hzv h0 v n _ hs (World.ownsRow.alloc hown _) ⟨w0.heap.size, 0, none⟩ 1 1 (enc x) hx (by rw [hk, Nat.one_mul]) ?_ h1c h63 hbytes (by simp; omega) ?_
    · intro j u hj
      subst hcs
      have : (⟨w0.heap.size, 0, none⟩ : Addr).add j = ⟨w0.heap.size, j, none⟩ := by unfold Addr.add; split <;> simp_all
      rw [this, cell_of_row (w0.alloc _) w0.heap.size j (enc x).toArray e' (0, 0) (heap_alloc_new w0 _)]
      simpa using hj
    · intro v' w' hown' hgr _
      obtain ⟨a', cap', rfl⟩ := own_shape hown'
      have e2 : xs.flatMap enc ++ enc x = (xs ++ [x]).flatMap enc := by simp
      rw [e2, hys.out] at hown'
      have hb0 : Below base w0 (w0.alloc (.cells cs e')) := (Below.refl _ _).alloc hbase _
      refine (hK a' cap' w' hown' (hb0.grown hgr (by simp; omega) (fun b hb => ((World.ownsRow.alloc hown (.cells cs e')).lt b hb).1)) (by have h3 := hgr.size; simp at h3; omega) fun b hb hne => ?_)
      have hq := hgr.block b (by simp; omega) (fun h => hne h.symm)
      rw [hq]
      exact ((Below.refl w0.heap.size w0).alloc (Nat.le_refl _) (.cells cs e')).block b hb
end
theorem infoLD : (Try.prog.info? 2).map (fun i => (i.zero, i.size, i.bytes)) = some (some (.int .i64 0), 1, 8) := by kernel_rfl
set_option maxHeartbeats 4000000 in
theorem misfits_any (n : Nat) (ls : List Lnk) (O : List Int) (a b : Option Addr) (m c d : Nat) (w : World) (h1 : 1 ≤ n) (h10 : n ≤ 10) (hm : m ≤ 12) (hl : ls.length = m) (hok : ∀ l ∈ ls, LkOk n l) (hr : Rd Lnk.enc 3 w a ls) (hol : O.length = n) (hro : Rd eI 1 w b O) (hoa : (O.all fun x => inB x (-100000) 100000) = true) (hd : ∀ l ∈ ls, O.getD l.b.toNat 0 - O.getD l.a.toNat 0 = l.diff) :
    Calls Try.prog 25 #[.int .i64 (n : Int), .slice a m c, .slice b n d] w fun e w' => ∃ (a' : Option Addr) (c' : Nat), e = .returned (.tuple #[.slice a' m c', .int .i64 0]) ∧ Rd eI 1 w' a' (List.replicate m 0) ∧ Below w.heap.size w w' := by
  have HOL := Lib.hid hol
  have HRO := Lib.hid hro
  have HOA := Lib.hid hoa
  have HD := Lib.hid hd
  have HL := Lib.hid hl
  have HO := Lib.hid hok
  have HR := Lib.hid hr
  have dn : ((n : Int) != (n : Int)) = false := by simp
  clear hl hok hr hol hro hoa hd
  go_enter Try.func25, Try.ntmps25
  go_wp2_with fail
  refine (validLinks_ok n ls a m c _ h1 h10 hm HL.out HO.out HR.out).mono ?_
  rintro e w1 ⟨rfl, hb1⟩
  go_wp2_with fail
  refine (countInt_any b n d _).mono ?_
  rintro e wz ⟨rfl, rfl⟩
  go_wp2_with fail
  refine (allIn_any O (-100000) 100000 b n d _ (by omega) HOL.out (HRO.out.below hb1)).mono ?_
  rintro e w2 ⟨rfl, hb2⟩
  rw [HOA.out]
  have HB2 := Lib.hid (hb1.trans (hb2.mono hb1.size))
  clear hb1 hb2
  have hG := Ow.built eI 1 w2 2
  have hbA := below_built w2 2
  obtain ⟨w3, hw3⟩ : ∃ wx, w2.alloc (.cells #[] 2) = wx := ⟨_, rfl⟩
  obtain ⟨B, hB⟩ : ∃ gx, w2.heap.size = gx := ⟨_, rfl⟩
  have hB3 : B ≤ w3.heap.size := by rw [← hw3, ← hB]; simp
  rw [hw3] at hG hbA
  rw [hB] at hG
  have HG := Lib.hid hG
  have HBA := Lib.hid (HB2.out.trans (hbA.mono HB2.out.size))
  have hwB : w.heap.size ≤ B := by have h9 := HB2.out.size; omega
  have HW3 := Lib.hid hw3
  have HBB := Lib.hid hB
  clear hG hbA hw3 hB
  go_upto_region 6 with (fail)
  rw [HW3.out, HBB.out]
  clear HW3
  go_wp2_with fail
  go_loopw [8, 29] (fun ov i wr => ∃ (k : Nat) (a' : Option Addr) (c' : Nat), k ≤ m ∧ i = .int .i64 k ∧ ov = .slice a' k c' ∧ Hid (Ow eI 1 wr B 2 (.slice a' k c') k (List.replicate k 0)) ∧ B ≤ wr.heap.size ∧ Hid (Below w.heap.size w wr)) (fun _ i _ => m - (intOf i).toNat)
  case atStart => exact ⟨0, _, _, Nat.zero_le _, rfl, rfl, HG, hB3, HBA⟩
  case round =>
  obtain ⟨k, a', c', hk, rfl, rfl, HGk, hBs, HBk⟩ := hrel
  obtain ⟨wA, hwA⟩ : ∃ wx, wx = wr := ⟨_, rfl⟩
  subst hwA
  clear HG HBA hB3
  by_cases hlt : k < m
  case neg =>
    obtain rfl : m = k := by omega
    have h8 := Lib.hid (HGk.out.rd eI_len (by decide))
    go_wp2_with fail
    go_ret2
    exact ⟨_, _, rfl, h8.out, HBk.out⟩
  obtain ⟨l, hlx⟩ : ∃ z, ls[k]? = some z := ⟨_, List.getElem?_eq_getElem (by rw [HL.out]; exact hlt)⟩
  have hlm := List.mem_of_getElem? hlx
  obtain ⟨q0, q1, q2, q3, q4⟩ := HO.out l hlm
  have hdd := HD.out l hlm
  obtain ⟨va, hva⟩ : ∃ z, O[l.a.toNat]? = some z := ⟨_, List.getElem?_eq_getElem (by rw [HOL.out]; omega)⟩
  obtain ⟨vb, hvb⟩ : ∃ z, O[l.b.toNat]? = some z := ⟨_, List.getElem?_eq_getElem (by rw [HOL.out]; omega)⟩
  rw [show O.getD l.a.toNat 0 = va by simp [List.getD, hva], show O.getD l.b.toNat 0 = vb by simp [List.getD, hvb]] at hdd
  obtain ⟨b1, o1, hab, hC⟩ := (HR.out.below HBk.out).addr (by rw [HL.out]; omega)
  subst hab
  have x0 := hC k l hlx _ (Below.refl _ _) 0 _ rfl
  rw [Nat.add_zero] at x0
  have x1 := hC k l hlx _ (Below.refl _ _) 1 _ rfl
  have x2 := hC k l hlx _ (Below.refl _ _) 2 _ rfl
  have j0 : (0 : Int) ≤ (k : Nat) := by omega
  have j1 : ((k : Nat) : Int) < (m : Nat) := by omega
  obtain ⟨b2, o2, hab2, hC2⟩ := HRO.out.addr1 (f := fun x => Value.int .i64 x) (by rw [HOL.out]; omega) (fun _ => rfl)
  subst hab2
  have hbx : Below wA.heap.size wA (wA.alloc (.cells #[.int .i64 l.a, .int .i64 l.b, .int .i64 l.diff] 50)) := (Below.refl _ _).alloc (Nat.le_refl _) _
  have hCX := CAt.new wA #[.int .i64 l.a, .int .i64 l.b, .int .i64 l.diff] 50
  have hO2 := HGk.out.below hbx
  have hB2 := HBk.out.trans (hbx.mono HBk.out.size)
  have hB2s : B ≤ (wA.alloc (.cells #[.int .i64 l.a, .int .i64 l.b, .int .i64 l.diff] 50)).heap.size := Nat.le_trans hBs hbx.size
  obtain ⟨wq, hwB⟩ : ∃ wx, wA.alloc (.cells #[.int .i64 l.a, .int .i64 l.b, .int .i64 l.diff] 50) = wx := ⟨_, rfl⟩
  obtain ⟨gl, hgl⟩ : ∃ gx, wA.heap.size = gx := ⟨_, rfl⟩
  rw [hwB] at hCX hO2 hB2 hB2s
  rw [hgl] at hCX
  have hglB : B ≤ gl := by rw [← hgl]; exact hBs
  have HWB := Lib.hid hwB
  have HGL := Lib.hid hgl
  have HCX := Lib.hid hCX
  have HGq := Lib.hid hO2
  have HBq := Lib.hid hB2
  have HVA := Lib.hid hva
  have HVB := Lib.hid hvb
  have HC2 := Lib.hid hC2
  clear hC hC2 hlx hlm hbx hCX hO2 hB2 hwB hgl hva hvb HGk HBk
  go_upto_region 9 with (fail)
  rw [HWB.out, HGL.out]
  clear HWB HGL x0 x1 x2
  have hglq := HCX.out.lt
  have HDw : Hid (Below wq.heap.size wq wq.drew) := Lib.hid (Below.refl _ _).drew
  have HGD := Lib.hid (HGq.out.below HDw.out)
  have hszd : B ≤ wq.drew.heap.size := Nat.le_trans hB2s HDw.out.size
  have HSc : Hid (∀ wz, Below wq.heap.size wq wz → wz.cell? ⟨gl, 0, none⟩ = some (.int .i64 l.a) ∧ wz.cell? ⟨gl, 1, none⟩ = some (.int .i64 l.b) ∧ wz.cell? ⟨gl, 2, none⟩ = some (.int .i64 l.diff) ∧ wz.cell? ⟨b2, o2 + l.a.toNat, none⟩ = some (.int .i64 va) ∧ wz.cell? ⟨b2, o2 + l.b.toNat, none⟩ = some (.int .i64 vb)) := Lib.hid fun wz hz => ⟨(HCX.out.below hz).cell 0, (HCX.out.below hz).cell 1, (HCX.out.below hz).cell 2, HC2.out _ _ HVA.out wz (HBq.out.trans (hz.mono HBq.out.size)), HC2.out _ _ HVB.out wz (HBq.out.trans (hz.mono HBq.out.size))⟩
  have i1 : IntKind.i64.wrap (vb - va) = l.diff := by rw [hdd]; exact IntWalk.i64_in _ (by omega)
  have i2 : IntKind.i64.wrap (l.diff - l.diff) = 0 := by rw [Int.sub_self]; exact IntWalk.i64_in _ (by omega)
  have e0 : l.diff - l.diff = 0 := Int.sub_self _
  have i3 : IntKind.i64.wrap (l.diff - IntKind.i64.wrap l.diff) = 0 := by rw [IntWalk.i64_in l.diff (by omega), e0]; rfl
  have h63 : k + 1 ≤ maxLen := by unfold maxLen; omega
  have hby : (k + 1) * 8 ≤ 140737488355328 := by omega
  have ja : l.a < (n : Int) := by omega
  have jb : (0 : Int) ≤ l.b := by omega
  have HYS : Hid (List.replicate k (0 : Int) ++ [0] = List.replicate (k + 1) 0) := Lib.hid (by rw [List.replicate_succ'])
  have DAB := HDw
  have hszq := HDw.out.size
  go_wp2_with fail
  go_region_held3 (fun wz : World => wz.cell? ⟨gl, 0, none⟩ = some (.int .i64 l.a) ∧ wz.cell? ⟨gl, 1, none⟩ = some (.int .i64 l.b) ∧ wz.cell? ⟨gl, 2, none⟩ = some (.int .i64 l.diff) ∧ wz.cell? ⟨b2, o2 + l.a.toNat, none⟩ = some (.int .i64 va) ∧ wz.cell? ⟨b2, o2 + l.b.toNat, none⟩ = some (.int .i64 vb)) (first | (go_keep; done) | exact HSc.out _ HDw.out | exact HS9.out | exact HSc.out _ (HDw.out.alloc hszq _) | fail)
    (first
      | (refine step_appH1 eI_len (by decide) _ rfl (.tmp 33) (.tmp 48) 39 rfl 2 _ 8 rfl Try.underlying39 infoLD B _ k _ rfl wq.drew _ _ rfl HGD.out (0 : Int) rfl (by first | rfl | (rw [i3]; rfl)) (eI_one _) h63 hby hszd _ HYS ?_; intro a9 c9 w9 ho9 hb9 hs9 hk9; have HO9 := Lib.hid ho9; have HB9 := Lib.hid hb9; have hgo9 := HGD.out.neCAt (HCX.out.below HDw.out) (by decide); have hC9 : CAt w9 gl #[.int .i64 l.a, .int .i64 l.b, .int .i64 l.diff] 50 := (HCX.out.below HDw.out).keep hk9 hgo9; have HW9 : Hid (Below w.heap.size w w9) := Lib.hid ((HBq.out.trans (HDw.out.mono HBq.out.size)).trans (hb9.mono hwB)); have HS9 : Hid (w9.cell? ⟨gl, 0, none⟩ = some (.int .i64 l.a) ∧ w9.cell? ⟨gl, 1, none⟩ = some (.int .i64 l.b) ∧ w9.cell? ⟨gl, 2, none⟩ = some (.int .i64 l.diff) ∧ w9.cell? ⟨b2, o2 + l.a.toNat, none⟩ = some (.int .i64 va) ∧ w9.cell? ⟨b2, o2 + l.b.toNat, none⟩ = some (.int .i64 vb)) := Lib.hid ⟨hC9.cell 0, hC9.cell 1, hC9.cell 2, HC2.out _ _ HVA.out w9 HW9.out, HC2.out _ _ HVB.out w9 HW9.out⟩; clear ho9 hb9 hk9 hC9 hgo9))
  have hB9 : B ≤ w9.heap.size := by omega
  clear HSc HDw hszd h63 hby HGD i1 i2 i3 e0
  go_wp2_with fail
  go_roundw
  case rel => exact ⟨k + 1, a9, c9, by omega, by go_num, rfl, HO9, hB9, HW9⟩
  case measure => simp [intOf]; omega
end Go.Proofs.Ytnioecigjpifnaa
