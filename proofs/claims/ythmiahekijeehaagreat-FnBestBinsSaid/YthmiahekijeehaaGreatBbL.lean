/-
  Parts of the law FnBestBins: small facts, its loop.
-/
import Derived.Test.YthmiahekijeehaaGreatBb5
import Derived.Test.YthmiahekijeehaaGreatBb6
import Derived.Deep.CutRange
import Derived.Deep.Light
namespace Go.Proofs.YthmiahekijeehaaGreat
open Go.RowKit
set_option maxRecDepth 100000
set_option linter.unusedVariables false
set_option linter.unusedSimpArgs false
/-- all dispersions, or none -/
def dslU (ps : List Pt) (x : Sch) (b : Int) : List Frac := if saC ps x b = 0 then dsL ps b.toNat x (perC x) else []
theorem DslP.uni {ps : List Pt} {x : Sch} {b : Int} {w w' : World} {e : Ending} (h : DslP ps x b w e w') : ∃ (a' : Option Addr) (m c' : Nat), e = .returned (.tuple #[.slice a' m c', .int .i64 (saC ps x b)]) ∧ m ≤ 500 ∧ (dslU ps x b).length = m ∧ Rd Frac.enc 2 w' a' (dslU ps x b) ∧ Below w.heap.size w w' := by
  obtain ⟨h1 | ⟨h0, a', c', rfl, hr⟩, hb⟩ := h
  · obtain ⟨h0, rfl⟩ := h1
    refine ⟨none, 0, 0, rfl, by omega, by unfold dslU; rw [if_neg h0]; rfl, ?_, hb⟩
    unfold dslU; rw [if_neg h0]
    exact fun i x hx => by simp at hx
  · obtain ⟨_, hx, _⟩ := saC_parts h0
    refine ⟨a', perC x, c', by rw [h0], (perC_in hx).2, by unfold dslU; rw [if_pos h0]; exact dsL_len _ _ _ _, ?_, hb⟩
    unfold dslU; rw [if_pos h0]; exact hr
def binU (ps : List Pt) (p b : Int) : List Int := if vaC ps p b = 0 then bnL b.toNat p ps else []
theorem BinP.uni {ps : List Pt} {p b : Int} {w w' : World} {e : Ending} (h : BinP ps p b w e w') : ∃ (a' : Option Addr) (m c' : Nat), e = .returned (.tuple #[.slice a' m c', .int .i64 (vaC ps p b)]) ∧ m ≤ ps.length ∧ (binU ps p b).length = m ∧ Rd eI 1 w' a' (binU ps p b) ∧ Below w.heap.size w w' := by
  obtain ⟨h1 | ⟨h0, a', c', rfl, hr⟩, hb⟩ := h
  · obtain ⟨h0, rfl⟩ := h1
    refine ⟨none, 0, 0, rfl, by omega, by unfold binU; rw [if_neg h0]; rfl, ?_, hb⟩
    unfold binU; rw [if_neg h0]
    exact fun i x hx => by simp at hx
  · refine ⟨a', ps.length, c', by rw [h0], Nat.le_refl _, by unfold binU; rw [if_pos h0, bnL_len], ?_, hb⟩
    unfold binU; rw [if_pos h0]; exact hr
theorem fdF_in {ps : List Pt} {b : Nat} {p : Int} (hm : ∀ x ∈ ps, (0 ≤ x.time ∧ x.time ≤ 10000000) ∧ -2000 ≤ x.mag ∧ x.mag ≤ 20000) (hn : ps.length ≤ 40) : 0 ≤ (fdF (bnG b p) ps ps.length).num ∧ (fdF (bnG b p) ps ps.length).num ≤ 12800000000000 ∧ 0 ≤ (fdF (bnG b p) ps ps.length).den ∧ (fdF (bnG b p) ps ps.length).den ≤ 8000 := by
  have h9 := bS_in (b := b) (p := p) hm hn
  unfold fdF
  by_cases hz : alP (bnG b p) ps ps.length = 0
  · rw [if_pos hz]; exact ⟨by decide, by decide, by decide, by decide⟩
  · rw [if_neg hz]
    have := frF_nn h9.1 (show 0 < alP (bnG b p) ps ps.length by omega)
    omega
/-- what the law's end asks of the best period -/
theorem best_all {ps : List Pt} {x : Sch} {b : Int} (h : bbC ps x b = 0) : daC ps (bbV ps x b) b = 0 ∧ (0 ≤ (daF ps (bbV ps x b) b).num ∧ (daF ps (bbV ps x b) b).num ≤ 12800000000000 ∧ 0 ≤ (daF ps (bbV ps x b) b).den ∧ (daF ps (bbV ps x b) b).den ≤ 8000) ∧ ∀ (i : Nat) (f : Frac), (dslU ps x b)[i]? = some f → (0 ≤ f.num ∧ f.num ≤ 12800000000000 ∧ 0 ≤ f.den ∧ f.den ≤ 8000) ∧ (0 < f.den → ¬ f.num * (daF ps (bbV ps x b) b).den < (daF ps (bbV ps x b) b).num * f.den) := by
  have h0 := bbC_sa h
  obtain ⟨hok, hx, hb, hn⟩ := saC_parts h0
  have hm := (allOk_mem hok).2
  obtain ⟨h1, h2⟩ := bb_least h
  refine ⟨h1, ?_, fun i f hf => ?_⟩
  · unfold daF
    by_cases hv : vaC ps (bbV ps x b) b = 0
    · rw [if_pos hv]; exact fdF_in hm hn
    · rw [if_neg hv]; exact ⟨by decide, by decide, by decide, by decide⟩
  · unfold dslU at hf
    rw [if_pos h0] at hf
    refine ⟨?_, h2 i f hf⟩
    obtain ⟨_, rfl⟩ := dsL_at hf
    exact fdF_in hm hn
theorem fb_in {ps : List Pt} {p b : Int} (h : vaC ps p b = 0) : fbV ps p b ≤ b ∧ fbV ps p b ≤ (ps.length : Int) ∧ (0 < ps.length → 1 ≤ fbV ps p b) := by
  obtain ⟨q, rfl, q1, q2, p1, p2, _, _⟩ := vaC_all h
  have h9 := fillN_in (ps := ps) (b := q) (p := p) q1 p1
  unfold fbV
  rw [if_pos h, Int.toNat_natCast]
  omega
/-- the statement 'if' over a slot; a block -/
def findC (n : Nat) : Code → Option Code
  | .cond (.tmp k) a b => if k = n then some (.cond (.tmp k) a b) else match findC n a with
    | some x => some x
    | none => findC n b
  | .seq a b => match findC n a with
    | some x => some x
    | none => findC n b
  | .loop c => findC n c
  | .block _ c => findC n c
  | .scope c => findC n c
  | _ => none
def findB (n : Nat) : Code → Option Code
  | .block id c => if id = n then some (.block id c) else findB n c
  | .cond _ a b => match findB n a with
    | some x => some x
    | none => findB n b
  | .seq a b => match findB n a with
    | some x => some x
    | none => findB n b
  | .loop c => findB n c
  | .scope c => findB n c
  | _ => none
noncomputable def cdB0 : Code := ((Tryz.f3.body.bind (findB 0)).getD .skip)
set_option maxHeartbeats 4000000 in
set_option maxRecDepth 1000000 in
theorem part1 {c0 c1 c2 c3 c4 c5 c6 c7 c8 c9 c10 c11 c13 c14 c15 c16 c17 c18 c19 c20 c21 c22 c23 c24 c25 c26 c27 c28 c30 c32 c33 c34 c35 c36 c37 c38 c39 c40 c41 c42 c43 c44 c45 c46 c47 c48 c49 c50 c51 c52 c53 c54 c55 c56 c57 c58 c59 c60 c61 c62 c63 c64 c65 c66 c67 c68 c69 c70 c71 c72 c73 c74 c75 c76 c77 c78 c79 c80 c81 c82 c83 c84 c85 c86 c87 c88 c89 c90 c91 c92 c93 c94 c95 c96 c97 c98 c99 c100 c101 c102 c103 c104 c105 c106 c107 c108 c109 c110 c111 c112 c113 c114 c115 c116 c117 c118 c119 c120 c121 c122 c123 c124 c125 c126 c127 c128 c129 c130 c131 c132 c133 c134 c135 c136 c137 c138 c139 c140 c141 c142 c143 c144 c145 c146 c147 c148 c149 c150 c151 c152 c153 c154 c155 c156 c157 c158 c159 c160 c161 c162 c163 c164 c165 c166 c167 c168 c169 c170 c171 c172 c173 c174 c175 c176 c177 c178 c179 c180 c181 c182 c183 c184 c185 c186 c187 c188 c189 c190 c191 c192 c193 c194 c195 c196 c197 c198 c199 c200 c201 c202 c203 c204 c205 c206 c207 c208 c209 c210 c211 c212 c213 c214 c215 c216 c217 c218 c219 c220 c221 c222 c223 c224 c225 c226 c227 c228 c229 : Value} {K : Act → World → Prop} {Q0 : Exit → Act → World → Prop} {W : World} {L : List Frac} {aL : Option Addr} {kL cL gL : Nat} {LN LD : Int} (hk : kL ≤ 500) (hl : L.length = kL) (hr : Rd Frac.enc 2 W aL L) (hX : CAt W gL #[.int .i64 LN, .int .i64 LD] 45) (hb : 0 ≤ LN ∧ LN ≤ 12800000000000 ∧ 0 ≤ LD ∧ LD ≤ 8000) (hmin : ∀ (i : Nat) (f : Frac), L[i]? = some f → (0 ≤ f.num ∧ f.num ≤ 12800000000000 ∧ 0 ≤ f.den ∧ f.den ≤ 8000) ∧ (0 < f.den → ¬ f.num * LD < LN * f.den))
    (hK : ∀ (u2 u31 u199 u200 u201 u202 u203 u204 u205 u206 u207 u208 u209 u210 u211 u212 u213 u214 u215 u216 u217 u218 u219 u220 u221 u222 u223 u224 u225 u226 u227 u228 u229 : Value) (wx : World), Hid (Below W.heap.size W wx) → K ⟨#[c0, c1, u2, c3, c4, c5, c6, c7, c8, c9, c10, c11, (.slice aL kL cL), c13, c14, c15, c16, c17, c18, c19, c20, c21, c22, c23, c24, c25, c26, c27, c28, (.pointer (some ⟨gL, 0, none⟩)), c30, u31, c32, c33, c34, c35, c36, c37, c38, c39, c40, c41, c42, c43, c44, c45, c46, c47, c48, c49, c50, c51, c52, c53, c54, c55, c56, c57, c58, c59, c60, c61, c62, c63, c64, c65, c66, c67, c68, c69, c70, c71, c72, c73, c74, c75, c76, c77, c78, c79, c80, c81, c82, c83, c84, c85, c86, c87, c88, c89, c90, c91, c92, c93, c94, c95, c96, c97, c98, c99, c100, c101, c102, c103, c104, c105, c106, c107, c108, c109, c110, c111, c112, c113, c114, c115, c116, c117, c118, c119, c120, c121, c122, c123, c124, c125, c126, c127, c128, c129, c130, c131, c132, c133, c134, c135, c136, c137, c138, c139, c140, c141, c142, c143, c144, c145, c146, c147, c148, c149, c150, c151, c152, c153, c154, c155, c156, c157, c158, c159, c160, c161, c162, c163, c164, c165, c166, c167, c168, c169, c170, c171, c172, c173, c174, c175, c176, c177, c178, c179, c180, c181, c182, c183, c184, c185, c186, c187, c188, c189, c190, c191, c192, c193, c194, c195, c196, c197, c198, u199, u200, u201, u202, u203, u204, u205, u206, u207, u208, u209, u210, u211, u212, u213, u214, u215, u216, u217, u218, u219, u220, u221, u222, u223, u224, u225, u226, u227, u228, u229], []⟩ wx) :
    Code.wp Tryz.prog cdB0 (Exit.then K Q0) ⟨#[c0, c1, c2, c3, c4, c5, c6, c7, c8, c9, c10, c11, (.slice aL kL cL), c13, c14, c15, c16, c17, c18, c19, c20, c21, c22, c23, c24, c25, c26, c27, c28, (.pointer (some ⟨gL, 0, none⟩)), c30, (.int .i64 0), c32, c33, c34, c35, c36, c37, c38, c39, c40, c41, c42, c43, c44, c45, c46, c47, c48, c49, c50, c51, c52, c53, c54, c55, c56, c57, c58, c59, c60, c61, c62, c63, c64, c65, c66, c67, c68, c69, c70, c71, c72, c73, c74, c75, c76, c77, c78, c79, c80, c81, c82, c83, c84, c85, c86, c87, c88, c89, c90, c91, c92, c93, c94, c95, c96, c97, c98, c99, c100, c101, c102, c103, c104, c105, c106, c107, c108, c109, c110, c111, c112, c113, c114, c115, c116, c117, c118, c119, c120, c121, c122, c123, c124, c125, c126, c127, c128, c129, c130, c131, c132, c133, c134, c135, c136, c137, c138, c139, c140, c141, c142, c143, c144, c145, c146, c147, c148, c149, c150, c151, c152, c153, c154, c155, c156, c157, c158, c159, c160, c161, c162, c163, c164, c165, c166, c167, c168, c169, c170, c171, c172, c173, c174, c175, c176, c177, c178, c179, c180, c181, c182, c183, c184, c185, c186, c187, c188, c189, c190, c191, c192, c193, c194, c195, c196, c197, c198, c199, c200, c201, c202, c203, c204, c205, c206, c207, c208, c209, c210, c211, c212, c213, c214, c215, c216, c217, c218, c219, c220, c221, c222, c223, c224, c225, c226, c227, c228, c229], []⟩ W := by
  have HK := Lib.hid hK
  clear hK
  conv => arg 2; whnf
  have HLU := Lib.hid hl
  have HRL := Lib.hid hr
  have HXB := Lib.hid hX
  have HMN := Lib.hid hmin
  obtain ⟨n0, n1, n2, n3⟩ := hb
  clear hl hr hX hmin
  go_wp2_with fail
  go_loopw [31] (fun iv wr => ∃ k : Nat, k ≤ kL ∧ iv = .int .i64 k ∧ Hid (Below W.heap.size W wr)) (fun iv _ => kL - (intOf iv).toNat)
  case atStart => exact ⟨0, Nat.zero_le _, rfl, Lib.hid (Below.refl _ _)⟩
  case round =>
  obtain ⟨k, hkk, rfl, HBk⟩ := hrel
  obtain ⟨wA, hwA⟩ : ∃ wx, wx = wr := ⟨_, rfl⟩
  subst hwA
  by_cases hlt : k < kL
  · obtain ⟨x, hx⟩ : ∃ z, L[k]? = some z := ⟨_, List.getElem?_eq_getElem (by rw [HLU.out]; exact hlt)⟩
    obtain ⟨⟨x0, x1, x2, x3⟩, hmx⟩ := HMN.out k x hx
    obtain ⟨b, o, hab, hbl, hc⟩ := (HRL.out.below HBk.out) k x hx
    obtain ⟨U, hU⟩ : ∃ u, x.num = u := ⟨_, rfl⟩
    obtain ⟨D, hD⟩ : ∃ u, x.den = u := ⟨_, rfl⟩
    have c0 : wA.cell? ⟨b, o + k * 2, none⟩ = some (.int .i64 U) := by have h9 := hc 0 _ rfl; rw [Nat.add_zero, hU] at h9; exact h9
    have c1 : wA.cell? ⟨b, o + k * 2 + 1, none⟩ = some (.int .i64 D) := by have h9 := hc 1 _ rfl; rw [hD] at h9; exact h9
    have y0 : wA.cell? ⟨gL, 0, none⟩ = some (.int .i64 LN) := (HXB.out.below HBk.out).cell 0
    have y1 : wA.cell? ⟨gL, 1, none⟩ = some (.int .i64 LD) := (HXB.out.below HBk.out).cell 1
    rw [hU] at x0 x1 hmx
    rw [hD] at x2 x3 hmx
    have m1 := (mul_in x0 x1 n2 n3).1
    have m2 := (mul_in x0 x1 n2 n3).2
    have m3 := (mul_in n0 n1 x2 x3).1
    have m4 := (mul_in n0 n1 x2 x3).2
    have w1 : IntKind.i64.wrap (U * LD) = U * LD := IntWalk.i64_in _ (by omega)
    have w2 : IntKind.i64.wrap (LN * D) = LN * D := IntWalk.i64_in _ (by omega)
    have j0 : (0 : Int) ≤ (k : Nat) := by omega
    have j1 : ((k : Nat) : Int) < kL := by omega
    have HAB := Lib.hid hab
    have i9 : IntKind.i64.wrap ((k : Int) + 1) = (k : Int) + 1 := IntWalk.i64_in _ (by omega)
    clear hc hbl hx hab hU hD m1 m2 m3 m4
    rw [HAB.out]
    by_cases hd : 0 < D
    · have e1 : decide (0 < D) = true := decide_eq_true hd
      have e2 : decide (U * LD < LN * D) = false := decide_eq_false (by first | exact hmx hd | exact Int.not_lt.2 (hmx hd))
      clear hd hmx
      go_wp2_with fail
      go_quiet (fail)
      have HB2 : Hid (Below W.heap.size W (wA.drewN nq)) := Lib.hid (below_drewN HBk.out nq)
      clear c0 c1 y0 y1 w1 w2
      go_wp2_with fail
      go_roundw
      case rel => exact ⟨k + 1, by omega, by go_num, HB2⟩
      case measure => simp [intOf] <;> omega
    · have e1 : decide (0 < D) = false := decide_eq_false hd
      clear hd hmx
      go_wp2_with fail
      go_quiet (fail)
      have HB2 : Hid (Below W.heap.size W (wA.drewN nq)) := Lib.hid (below_drewN HBk.out nq)
      clear c0 c1 y0 y1 w1 w2
      go_wp2_with fail
      go_roundw
      case rel => exact ⟨k + 1, by omega, by go_num, HB2⟩
      case measure => simp [intOf] <;> omega
  · go_wp2_with fail
    exact HK.out _ _ _ _ _ _ _ _ _ _ _ _ _ _ _ _ _ _ _ _ _ _ _ _ _ _ _ _ _ _ _ _ _ wA (HBk)
end Go.Proofs.YthmiahekijeehaaGreat
