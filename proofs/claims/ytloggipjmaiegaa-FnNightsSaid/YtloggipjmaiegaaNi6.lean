/-
  The first list of some windows that show all: 'choose'.
-/
import Derived.Test.YtloggipjmaiegaaNi5
namespace Go.Proofs.Ytloggipjmaiegaa
open Go.RowKit
set_option maxRecDepth 100000
set_option linter.unusedVariables false
def firstS (f : Nat → Option (List Int)) : Nat → Nat → Option (List Int)
  | 0, _ => none
  | j + 1, k => match f k with
    | some r => some ((k : Int) :: r)
    | none => firstS f j (k + 1)
/-- the first list of some more sets, from an index on, that make the set that is due together with what is there -/
def choP (L : List Nat) : Nat → Nat → Nat → Nat → Option (List Int)
  | 0, _, h, d => if h = d then some [] else none
  | m + 1, fro, h, d => firstS (fun k => choP L m (k + 1) (h ||| L[k]?.getD 0) d) (L.length - m - fro) fro
theorem firstS_some {f : Nat → Option (List Int)} : ∀ {j k : Nat} {l : List Int}, firstS f j k = some l → ∃ (i : Nat) (r : List Int), k ≤ i ∧ i < k + j ∧ f i = some r ∧ l = (i : Int) :: r
  | 0, k, l, h => by simp [firstS] at h
  | j + 1, k, l, h => by
    unfold firstS at h
    cases hf : f k with
    | some r =>
      rw [hf] at h
      simp only [Option.some.injEq] at h
      exact ⟨k, r, Nat.le_refl _, by omega, hf, h.symm⟩
    | none =>
      rw [hf] at h
      obtain ⟨i, r, h1, h2, h3, h4⟩ := firstS_some h
      exact ⟨i, r, by omega, by omega, h3, h4⟩
theorem firstS_none {f : Nat → Option (List Int)} : ∀ {j k : Nat}, firstS f j k = none → ∀ i, k ≤ i → i < k + j → f i = none
  | 0, k, _, i, h1, h2 => by omega
  | j + 1, k, h, i, h1, h2 => by
    unfold firstS at h
    cases hf : f k with
    | some r => rw [hf] at h; cases h
    | none =>
      rw [hf] at h
      by_cases hi : i = k
      · rw [hi]; exact hf
      · exact firstS_none h i (by omega) (by omega)
def risF (n : Int) : Int → List Int → Prop
  | _, [] => True
  | fro, x :: r => fro ≤ x ∧ x < n ∧ risF n (x + 1) r
def orI (L : List Nat) (l : List Int) : Nat := orN (l.map fun i => L[i.toNat]?.getD 0)
theorem orI_cons (L : List Nat) (x : Int) (l : List Int) : orI L (x :: l) = L[x.toNat]?.getD 0 ||| orI L l := rfl
theorem choP_ok (L : List Nat) (d : Nat) : ∀ {m fro h : Nat} {l : List Int}, choP L m fro h d = some l → l.length = m ∧ risF L.length fro l ∧ h ||| orI L l = d
  | 0, fro, h, l, hc => by
    unfold choP at hc
    split at hc
    · rename_i h1
      simp only [Option.some.injEq] at hc
      subst hc
      exact ⟨rfl, trivial, by simpa [orI, orN] using h1⟩
    · cases hc
  | m + 1, fro, h, l, hc => by
    unfold choP at hc
    obtain ⟨i, r, h1, h2, h3, rfl⟩ := firstS_some hc
    obtain ⟨h4, h5, h6⟩ := choP_ok L d h3
    refine ⟨by simp [h4], ⟨by omega, by omega, h5⟩, ?_⟩
    rw [orI_cons, Int.toNat_natCast, ← h6, Nat.or_assoc]
theorem risF_len {n : Int} : ∀ {fro : Int} {l : List Int}, risF n fro l → l ≠ [] → fro + l.length ≤ n
  | fro, [], _, h => absurd rfl h
  | fro, x :: r, ⟨h1, h2, h3⟩, _ => by
    by_cases hr : r = []
    · subst hr; simp only [List.length_cons, List.length_nil]; omega
    · have := risF_len h3 hr
      simp only [List.length_cons]; omega
theorem choP_none (L : List Nat) (d : Nat) : ∀ {m fro h : Nat}, choP L m fro h d = none → ∀ l : List Int, l.length = m → risF L.length fro l → h ||| orI L l ≠ d
  | 0, fro, h, hc, l, hl, _ => by
    obtain rfl := List.eq_nil_of_length_eq_zero hl
    unfold choP at hc
    split at hc
    · cases hc
    · rename_i h1
      simpa [orI, orN] using h1
  | m + 1, fro, h, hc, l, hl, hr => by
    cases l with
    | nil => simp at hl
    | cons x r =>
      have hlen := risF_len hr (by simp)
      obtain ⟨h1, h2, h3⟩ := hr
      obtain ⟨i, rfl⟩ := Int.eq_ofNat_of_zero_le (show 0 ≤ x by omega)
      unfold choP at hc
      simp only [List.length_cons] at hl hlen
      have hk : (i : Int) + (m + 1) ≤ L.length := by
        by_cases hr0 : r = []
        · subst hr0; simp at hl; omega
        · have := risF_len h3 hr0; omega
      have h4 := firstS_none hc i (by omega) (by omega)
      have h5 := choP_none L d h4 r (by omega) h3
      rw [orI_cons, Int.toNat_natCast, ← Nat.or_assoc]
      exact h5
def ChoP (r : Option (List Int)) (w : World) (e : Ending) (w' : World) : Prop :=
  (∃ (l : List Int) (g c' : Nat), r = some l ∧ e = .returned (.tuple #[.slice (some ⟨g, 0, none⟩) l.length c', .bool true]) ∧ Rd eI 1 w' (some ⟨g, 0, none⟩) l ∧ Below w.heap.size w w') ∨
  (r = none ∧ ∃ (a' : Option Addr) (n' c' : Nat), e = .returned (.tuple #[.slice a' n' c', .bool false]) ∧ Below w.heap.size w w')
section
variable {P : Program} {ops : Array Oper} {rest : List Oper} {o : Oper} {a : Act} {Q : Exit → Act → World → Prop}
/-- append of all elements of a list of numbers -/
theorem wpl_appI (w : World) (hg : o.guard = none) (s xo : Operand) (t : TypeId) (hop : o.op = Op.call { callee := Callee.builtin Builtin.append, args := #[s, xo], argTypes := #[t, t] })
    (e : TypeId) (zv : Value) (bytes : Nat) (hzv : zv.cells.size = 1) (h1 : P.underlying t = some (.slice e)) (hinfo : (P.info? e).map (fun i => (i.zero, i.size, i.bytes)) = some (some zv, 1, bytes))
    (base : Nat) (v : Value) (n : Nat) (xs : List Int) (hs : a.eval s = v) (hown : Ow eI 1 w base e v n xs) (ys : List Int) (g m c : Nat) (hx : a.eval xo = .slice (some ⟨g, 0, none⟩) m c) (hm : ys.length = m) (hr : Rd eI 1 w (some ⟨g, 0, none⟩) ys)
    (h63 : n + m ≤ maxLen) (hbytes : (n + m) * bytes ≤ 140737488355328) (hbase : base ≤ w.heap.size)
    (hK : ∀ a' cap' w', Ow eI 1 w' base e (.slice a' (n + m) cap') (n + m) (xs ++ ys) → Below base w w' → wpList P ops Q rest (a.put o.dst (.slice a' (n + m) cap')) w') :
    wpList P ops Q (o :: rest) a w :=
  wpList_plain hg fun K hK' => by
    obtain ⟨i0, hi, hz0, hz1, hz2⟩ := info_parts hinfo
    have hfl : ∀ (l : List Int) (j : Nat), (l.flatMap eI)[j]? = (l[j]?).map fun y => .int .i64 y := by
      intro l
      induction l with
      | nil => intro j; simp
      | cons x l ih => intro j; cases j with
        | zero => simp [eI]
        | succ j => simpa [eI] using ih j
    have hln : (ys.flatMap eI).length = m * 1 := by rw [flat_len eI_len, hm]
    refine wp_append_own _ s xo t hop base e i0 zv 1 bytes h1 hi hz0 hz1 hz2 hzv (by decide) v n _ hs hown ⟨g, 0, none⟩ m c (ys.flatMap eI) hx hln ?_ ?_ h63 hbytes hbase ?_
    · intro j u hj
      rw [hfl] at hj
      obtain ⟨y, hy, rfl⟩ := Option.map_eq_some_iff.1 hj
      obtain ⟨b, o, hab, _, hc⟩ := hr j y hy
      have h2 := hc 0 _ rfl
      cases hab
      rw [Addr.add_lit]
      simpa using h2
    · intro u hu
      obtain ⟨y, _, hy⟩ := List.mem_flatMap.1 hu
      exact eI_one y u hy
    · intro v' w' hown' hgr _
      obtain ⟨a', cap', rfl⟩ := own_shape hown'
      rw [← List.flatMap_append] at hown'
      exact hK' _ _ (hK a' cap' w' hown' ((Below.refl _ _).grown hgr hbase (fun b hb => (World.ownsRow.lt hown b hb).1)))
end
set_option maxHeartbeats 4000000 in
theorem choose_any (L : List Nat) (a : Option Addr) (n c : Nat) (d : Nat) (hn : n ≤ 1000) (hd : d < 18446744073709551616) (hL : ∀ m ∈ L, m < 18446744073709551616) (hl : L.length = n) : ∀ (more fro h : Nat) (w : World), more ≤ 1000 → fro ≤ 1001 → h < 18446744073709551616 → Rd eM 1 w a L → Calls Try.prog 118 #[.slice a n c, .int .i64 fro, .int .i64 more, .int .u64 (h : Int), .int .u64 (d : Int)] w (ChoP (choP L more fro h d) w)
  | 0, fro, h, w, _, _, _, _ => by
    by_cases hd : h = d
    · subst hd
      have d1 : ((h : Int) == (h : Int)) = true := by simp
      have HP : Hid (∀ e w', (∃ (g c' : Nat), e = .returned (.tuple #[.slice (some ⟨g, 0, none⟩) 0 c', .bool true]) ∧ Below w.heap.size w w') → ChoP (choP L 0 fro h h) w e w') := Lib.hid fun e w' ⟨g, c', h1, h2⟩ => .inl ⟨[], g, c', by simp [choP], h1, fun i x hx => by simp at hx, h2⟩
      have HB := Lib.hid (below_built w 2)
      go_enter Try.func118, Try.ntmps118
      go_wp2_with fail
      go_ret2
      exact HP.out _ _ ⟨_, _, rfl, HB.out⟩
    · have d1 : ((h : Int) == (d : Int)) = false := by rw [beq_eq_false_iff_ne]; omega
      have HP : Hid (∀ e w', (∃ (a' : Option Addr) (n' c' : Nat), e = .returned (.tuple #[.slice a' n' c', .bool false]) ∧ Below w.heap.size w w') → ChoP (choP L 0 fro h d) w e w') := Lib.hid fun e w' h1 => .inr ⟨by simp [choP, hd], h1⟩
      have HB := Lib.hid (below_built w 2)
      go_enter Try.func118, Try.ntmps118
      go_wp2_with fail
      go_ret2
      exact HP.out _ _ ⟨_, _, _, rfl, HB.out⟩
  | m + 1, fro, h, w, hm, hf, hh, hr => by
    have IH := Lib.hid (choose_any L a n c d hn hd hL hl m)
    have HR := Lib.hid hr
    have HL := Lib.hid hl
    have HLB := Lib.hid hL
    have HPn : Hid (∀ e w', choP L (m + 1) fro h d = none → (∃ (a' : Option Addr) (n' c' : Nat), e = .returned (.tuple #[.slice a' n' c', .bool false]) ∧ Below w.heap.size w w') → ChoP (choP L (m + 1) fro h d) w e w') := Lib.hid fun e w' h0 h1 => .inr ⟨h0, h1⟩
    have HPs : Hid (∀ e w' l, choP L (m + 1) fro h d = some l → (∃ (g c' : Nat), e = .returned (.tuple #[.slice (some ⟨g, 0, none⟩) l.length c', .bool true]) ∧ Rd eI 1 w' (some ⟨g, 0, none⟩) l ∧ Below w.heap.size w w') → ChoP (choP L (m + 1) fro h d) w e w') := Lib.hid fun e w' l h0 ⟨g, c', h1, h2, h3⟩ => .inl ⟨l, g, c', h0, h1, h2, h3⟩
    obtain ⟨F, hF⟩ : ∃ F : Nat → Option (List Int), (fun k => choP L m (k + 1) (h ||| L[k]?.getD 0) d) = F := ⟨_, rfl⟩
    have HF : Hid (∀ k, F k = choP L m (k + 1) (h ||| L[k]?.getD 0) d) := Lib.hid fun k => by rw [← hF]
    have HC : Hid (choP L (m + 1) fro h d = firstS F (n - m - fro) fro) := Lib.hid (by rw [← hF, ← hl]; rfl)
    clear hF hr hl hL
    obtain ⟨M, hM⟩ : ∃ M : Int, ((m + 1 : Nat) : Int) = M := ⟨_, rfl⟩
    rw [hM]
    have hM0 : M ≤ (m : Int) + 1 := by omega
    have hM1 : (m : Int) + 1 ≤ M := by omega
    have d0 : (M == 0) = false := by rw [beq_eq_false_iff_ne]; omega
    have w1 : IntKind.i64.wrap (M - 1) = m := by rw [IntWalk.i64_in _ (by omega)]; omega
    clear hM
    go_enter Try.func118, Try.ntmps118
    go_wp2_with fail
    go_loopw [12] (fun i wr => ∃ q : Nat, q ≤ n + fro ∧ i = .int .i64 q ∧ Hid (choP L (m + 1) fro h d = firstS F (n - m - q) q) ∧ Hid (Below w.heap.size w wr)) (fun i _ => n + 1 - (intOf i).toNat)
    case atStart => exact ⟨fro, by omega, rfl, HC, Lib.hid (Below.refl _ _)⟩
    case round =>
      obtain ⟨q, hq, rfl, HCq, HB⟩ := hrel
      have w2 : IntKind.i64.wrap ((q : Int) + M) = (q : Int) + M := IntWalk.i64_in _ (by omega)
      have w3 : IntKind.i64.wrap ((q : Int) + 1) = (q : Int) + 1 := IntWalk.i64_in _ (by omega)
      by_cases hlt : q + (m + 1) ≤ n
      · have e1 : decide ((q : Int) + M ≤ (n : Int)) = true := decide_eq_true (by omega)
        obtain ⟨x, hx⟩ : ∃ z, L[q]? = some z := ⟨_, List.getElem?_eq_getElem (by rw [HL.out]; omega)⟩
        have hxb := HLB.out x (List.mem_of_getElem? hx)
        have HFq : Hid (F q = choP L m (q + 1) (h ||| x) d) := Lib.hid (by rw [HF.out, hx]; rfl)
        have HN : Hid (firstS F (n - m - q) q = match F q with | some r => some ((q : Int) :: r) | none => firstS F (n - m - (q + 1)) (q + 1)) := Lib.hid (by rw [show n - m - q = (n - m - (q + 1)) + 1 by omega]; rfl)
        obtain ⟨b1, o1, hab, hbl, hcell⟩ := (HR.out.below HB.out) q x hx
        have c1 := hcell 0 _ rfl
        rw [Nat.add_zero, Nat.mul_one] at c1
        have hor := u64_or_nat h x hh hxb
        have hor2 : h ||| x < 18446744073709551616 := Nat.or_lt_two_pow (n := 64) hh hxb
        have j1 : (0 : Int) ≤ (q : Int) := by omega
        have j2 : (q : Int) < (n : Int) := by omega
        have HRw := Lib.hid (HR.out.below HB.out)
        clear hcell hx
        subst hab
        go_wp2_with fail
        refine (IH.out (q + 1) (h ||| x) wr (by omega) (by omega) hor2 HRw.out).mono ?_
        rintro e w5 (⟨l, g, c', hl5, rfl, hr5, hb5⟩ | ⟨hl5, a', n', c', rfl, hb5⟩)
        · have HS : Hid (choP L (m + 1) fro h d = some ((q : Int) :: l)) := Lib.hid (by rw [HCq.out, HN.out, HFq.out, hl5])
          have hln : l.length ≤ 1000 := by rw [(choP_ok L d hl5).1]; omega
          have HB5 := Lib.hid (HB.out.trans (hb5.mono HB.out.size))
          have HR5 := Lib.hid hr5
          clear hb5 hr5 hl5 c1
          have HB6 := Lib.hid ((Below.refl w5.heap.size w5).alloc (Nat.le_refl _) (.cells #[.int .i64 q] 2))
          have HO6 := Lib.hid (Ow.oneG eI_len w5 (q : Int) 2)
          obtain ⟨w6, hw6⟩ : ∃ wx, w5.alloc (.cells #[.int .i64 q] 2) = wx := ⟨_, rfl⟩
          have HO7 : Hid (Ow eI 1 w6 w5.heap.size 2 (.slice (some ⟨w5.heap.size, 0, none⟩) 1 1) 1 [(q : Int)]) := Lib.hid (by rw [← hw6]; exact HO6.out)
          rw [hw6] at HB6
          have HR6 := Lib.hid (HR5.out.below HB6.out)
          have HW6 := Lib.hid hw6
          have h63 : 1 + l.length ≤ maxLen := by unfold maxLen; omega
          have hby : (1 + l.length) * 8 ≤ 140737488355328 := by omega
          have HT6 := Lib.hid (HB5.out.trans (HB6.out.mono HB5.out.size))
          clear HO6 hw6
          go_wp2_with (at_builtin; rw [HW6.out]; refine wpl_appI w6 rfl (.tmp 48) (.tmp 49) 30 rfl 2 (.int .i64 0) 8 rfl Try.underlying30 infoI w5.heap.size _ 1 [(q : Int)] rfl HO7.out l g l.length c' rfl rfl HR6.out h63 hby HB6.out.size ?_)
          intro a8 c8 w8 ho8 hb8
          have HO8 := Lib.hid ho8
          have HB8 := Lib.hid (HT6.out.trans (hb8.mono HB5.out.size))
          obtain ⟨g8, rfl, _, _⟩ := HO8.out.at_ (by omega)
          clear ho8 hb8
          go_wp2_with fail
          go_ret2
          exact HPs.out _ _ _ HS.out ⟨g8, c8, by simp [Nat.add_comm], by simpa using HO8.out.rd eI_len (by decide), HB8.out⟩
        · have HS : Hid (choP L (m + 1) fro h d = firstS F (n - m - (q + 1)) (q + 1)) := Lib.hid (by rw [HCq.out, HN.out, HFq.out, hl5])
          have HB5 := Lib.hid (HB.out.trans (hb5.mono HB.out.size))
          clear hb5 hl5 c1
          go_wp2_with fail
          go_roundw
          case rel => exact ⟨q + 1, by omega, by go_num, HS, HB5⟩
          case measure => simp [intOf]; omega
      · have e1 : decide ((q : Int) + M ≤ (n : Int)) = false := decide_eq_false (by omega)
        have HS : Hid (choP L (m + 1) fro h d = none) := Lib.hid (by rw [HCq.out, show n - m - q = 0 by omega]; rfl)
        go_wp2_with fail
        go_ret2
        exact HPn.out _ _ HS.out ⟨_, _, _, rfl, HB.out⟩
end Go.Proofs.Ytloggipjmaiegaa
