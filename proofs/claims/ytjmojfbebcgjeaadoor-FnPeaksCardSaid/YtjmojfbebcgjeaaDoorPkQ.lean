/-
  Parts of the law FnPeaks: its loops.
-/
import Derived.Test.YtjmojfbebcgjeaaDoorLexP
import Derived.Test.YtjmojfbebcgjeaaDoorPkC
import Derived.Test.YtjmojfbebcgjeaaDoorErr0
import Derived.Deep.Light
import Derived.Laws.StructEq
namespace Go.Proofs.YtjmojfbebcgjeaaDoor
open Go.RowKit
set_option maxRecDepth 100000
set_option linter.unusedVariables false
set_option linter.unusedSimpArgs false
theorem guardEx (op : BinOp) (o o' : Operand) (xs ys : Array Value) (wx : World) : (eqGuard op 43 o o' (.agg xs) (.agg ys)).run Tryd.prog wx = .ok () wx := run_eqGuard_agg wx op _ o o' xs ys (by kernel_rfl)
theorem neqEx (x y : Int) (wx : World) : (binOp .neq 43 (.agg #[.int .i64 x, .int .i64 y]) (.agg #[.int .i64 x, .int .i64 y])).run Tryd.prog wx = .ok (.bool false) wx := by
  rw [run_neq_struct, run_equalIn_agg _ _ _ _ _ (by kernel_rfl) (by kernel_rfl)]
  rw [Program.fieldsOf, Tryd.underlying43]
  have e1 := fun w a b => run_equalIn_int (P := Tryd.prog) w 9998 2 .i64 .i64 a b Tryd.underlying2
  have p0 : ∀ (a b : Int) (w : World), (part 2 #[.int .i64 a, .int .i64 b] 0).run Tryd.prog w = .ok (.int .i64 a) w := by intros; kernel_rfl
  have p1 : ∀ (a b : Int) (w : World), (part 2 #[.int .i64 a, .int .i64 b] 1).run Tryd.prog w = .ok (.int .i64 b) w := by intros; kernel_rfl
  simp only [Op.eqFields, p0, p1, e1, Sem.run_bind, Sem.run_ite, Sem.run_pure, Result.andThen_ok, ne_eq, String.reduceEq, not_false_eq_true, if_true, beq_self_eq_true]
  rfl
theorem neqE2 (x y x' y' : Int) (wx : World) : (binOp .neq 43 (.agg #[.int .i64 x, .int .i64 y]) (.agg #[.int .i64 x', .int .i64 y'])).run Tryd.prog wx = .ok (.bool (!(decide (x = x') && decide (y = y')))) wx := by
  rw [run_neq_struct, run_equalIn_agg _ _ _ _ _ (by kernel_rfl) (by kernel_rfl)]
  rw [Program.fieldsOf, Tryd.underlying43]
  have e1 := fun w a b => run_equalIn_int (P := Tryd.prog) w 9998 2 .i64 .i64 a b Tryd.underlying2
  have p0 : ∀ (a b : Int) (w : World), (part 2 #[.int .i64 a, .int .i64 b] 0).run Tryd.prog w = .ok (.int .i64 a) w := by intros; kernel_rfl
  have p1 : ∀ (a b : Int) (w : World), (part 2 #[.int .i64 a, .int .i64 b] 1).run Tryd.prog w = .ok (.int .i64 b) w := by intros; kernel_rfl
  by_cases h1 : x = x'
  · subst h1
    by_cases h2 : y = y'
    · subst h2
      simp [Op.eqFields, p0, p1, e1, Sem.run_bind, Sem.run_ite, Sem.run_pure]
    · simp [Op.eqFields, p0, p1, e1, Sem.run_bind, Sem.run_ite, Sem.run_pure, h2]
  · simp [Op.eqFields, p0, p1, e1, Sem.run_bind, Sem.run_ite, Sem.run_pure, h1]
set_option maxHeartbeats 4000000 in
set_option maxRecDepth 1000000 in
theorem part1 {c0 c1 c2 c3 c4 c6 c8 c9 c10 c11 c12 c13 c14 c15 c16 c17 c18 c19 c20 c21 c22 c23 c24 c25 c26 c27 c28 c30 c31 c32 c33 c34 c35 c36 c37 c38 c39 c40 c41 c42 c43 c44 c45 c46 c47 c48 c49 c50 c51 c52 c53 c54 c55 c56 c57 c58 c59 c60 c61 c62 c63 c64 c65 c66 c67 c68 c69 c70 c71 c72 c73 c74 c75 c76 c77 c78 c79 c80 c81 c82 c83 c84 c85 c86 c87 c88 c89 c90 c91 c92 c93 c94 c95 c96 c97 c98 c99 c100 c101 c102 c103 c104 c105 c106 c107 c108 c109 c110 c111 c112 c113 c114 c115 c116 c117 c118 c119 c120 c121 c122 c123 c124 c125 c126 c127 c128 c129 c130 c131 c132 c133 c134 c135 c136 c137 c138 c139 c140 c141 c142 c143 c144 c145 c146 c147 c148 c149 c150 c151 c152 c153 c154 c155 c156 c157 c158 c159 c160 c161 c162 c163 c164 c165 c166 c167 c168 c169 c170 c171 c172 c173 c174 c175 c176 c177 c178 c179 c180 c181 c182 c183 c184 c185 c186 c187 c188 c189 c190 c191 c192 c193 c194 c195 c196 c197 c198 c199 c200 c201 c202 c203 c204 c205 c206 c207 c208 c209 c210 c211 c212 c213 c214 c215 c216 c217 c218 c219 c220 c221 c222 c223 c224 c225 c226 c227 c228 c229 c230 c231 c232 c233 c234 c235 c236 c237 c238 c239 c240 c241 c242 c243 c244 c245 c246 c247 c248 c249 c250 c251 c252 c253 c254 c255 c256 c257 c258 c259 c260 c261 c262 c263 c264 c265 c266 c267 c268 c269 c270 c271 c272 c273 c274 c275 c276 c277 c278 c279 c280 c281 c282 c283 c284 c285 c286 c287 c288 c289 c290 c291 c292 c293 c294 c295 : Value} {K : Act → World → Prop} {Q0 : Exit → Act → World → Prop} {W : World} {PL : List Ext} {aX aM : Option Addr} {kX cX cM : Nat} (hk : kX ≤ 101) (hl : PL.length = kX) (hX : Rd Ext.enc 2 W aX PL) (hM : Rd Ext.enc 2 W aM PL)
    (hK : ∀ (u2 u29 u163 u164 u165 u166 u167 u168 u169 u170 u171 u172 u173 u174 u175 u176 u177 : Value) (wx : World), Hid (Below W.heap.size W wx) → K ⟨#[c0, c1, u2, c3, c4, (.slice aX kX cX), c6, (.slice aM kX cM), c8, c9, c10, c11, c12, c13, c14, c15, c16, c17, c18, c19, c20, c21, c22, c23, c24, c25, c26, c27, c28, u29, c30, c31, c32, c33, c34, c35, c36, c37, c38, c39, c40, c41, c42, c43, c44, c45, c46, c47, c48, c49, c50, c51, c52, c53, c54, c55, c56, c57, c58, c59, c60, c61, c62, c63, c64, c65, c66, c67, c68, c69, c70, c71, c72, c73, c74, c75, c76, c77, c78, c79, c80, c81, c82, c83, c84, c85, c86, c87, c88, c89, c90, c91, c92, c93, c94, c95, c96, c97, c98, c99, c100, c101, c102, c103, c104, c105, c106, c107, c108, c109, c110, c111, c112, c113, c114, c115, c116, c117, c118, c119, c120, c121, c122, c123, c124, c125, c126, c127, c128, c129, c130, c131, c132, c133, c134, c135, c136, c137, c138, c139, c140, c141, c142, c143, c144, c145, c146, c147, c148, c149, c150, c151, c152, c153, c154, c155, c156, c157, c158, c159, c160, c161, c162, u163, u164, u165, u166, u167, u168, u169, u170, u171, u172, u173, u174, u175, u176, u177, c178, c179, c180, c181, c182, c183, c184, c185, c186, c187, c188, c189, c190, c191, c192, c193, c194, c195, c196, c197, c198, c199, c200, c201, c202, c203, c204, c205, c206, c207, c208, c209, c210, c211, c212, c213, c214, c215, c216, c217, c218, c219, c220, c221, c222, c223, c224, c225, c226, c227, c228, c229, c230, c231, c232, c233, c234, c235, c236, c237, c238, c239, c240, c241, c242, c243, c244, c245, c246, c247, c248, c249, c250, c251, c252, c253, c254, c255, c256, c257, c258, c259, c260, c261, c262, c263, c264, c265, c266, c267, c268, c269, c270, c271, c272, c273, c274, c275, c276, c277, c278, c279, c280, c281, c282, c283, c284, c285, c286, c287, c288, c289, c290, c291, c292, c293, c294, c295], []⟩ wx) :
    Code.wp Tryd.prog cdB0 (Exit.then K Q0) ⟨#[c0, c1, c2, c3, c4, (.slice aX kX cX), c6, (.slice aM kX cM), c8, c9, c10, c11, c12, c13, c14, c15, c16, c17, c18, c19, c20, c21, c22, c23, c24, c25, c26, c27, c28, (.int .i64 0), c30, c31, c32, c33, c34, c35, c36, c37, c38, c39, c40, c41, c42, c43, c44, c45, c46, c47, c48, c49, c50, c51, c52, c53, c54, c55, c56, c57, c58, c59, c60, c61, c62, c63, c64, c65, c66, c67, c68, c69, c70, c71, c72, c73, c74, c75, c76, c77, c78, c79, c80, c81, c82, c83, c84, c85, c86, c87, c88, c89, c90, c91, c92, c93, c94, c95, c96, c97, c98, c99, c100, c101, c102, c103, c104, c105, c106, c107, c108, c109, c110, c111, c112, c113, c114, c115, c116, c117, c118, c119, c120, c121, c122, c123, c124, c125, c126, c127, c128, c129, c130, c131, c132, c133, c134, c135, c136, c137, c138, c139, c140, c141, c142, c143, c144, c145, c146, c147, c148, c149, c150, c151, c152, c153, c154, c155, c156, c157, c158, c159, c160, c161, c162, c163, c164, c165, c166, c167, c168, c169, c170, c171, c172, c173, c174, c175, c176, c177, c178, c179, c180, c181, c182, c183, c184, c185, c186, c187, c188, c189, c190, c191, c192, c193, c194, c195, c196, c197, c198, c199, c200, c201, c202, c203, c204, c205, c206, c207, c208, c209, c210, c211, c212, c213, c214, c215, c216, c217, c218, c219, c220, c221, c222, c223, c224, c225, c226, c227, c228, c229, c230, c231, c232, c233, c234, c235, c236, c237, c238, c239, c240, c241, c242, c243, c244, c245, c246, c247, c248, c249, c250, c251, c252, c253, c254, c255, c256, c257, c258, c259, c260, c261, c262, c263, c264, c265, c266, c267, c268, c269, c270, c271, c272, c273, c274, c275, c276, c277, c278, c279, c280, c281, c282, c283, c284, c285, c286, c287, c288, c289, c290, c291, c292, c293, c294, c295], []⟩ W := by
  have HK := Lib.hid hK
  clear hK
  conv => arg 2; whnf
  have HL := Lib.hid hl
  have HX := Lib.hid hX
  have HM := Lib.hid hM
  clear hl hX hM
  go_wp2_with fail
  go_loopw [29] (fun iv wr => ∃ k : Nat, k ≤ kX ∧ iv = .int .i64 k ∧ Hid (Below W.heap.size W wr)) (fun iv _ => kX - (intOf iv).toNat)
  case atStart => exact ⟨0, Nat.zero_le _, rfl, Lib.hid (Below.refl _ _)⟩
  case round =>
  obtain ⟨k, hkk, rfl, HBk⟩ := hrel
  obtain ⟨wA, hwA⟩ : ∃ wx, wx = wr := ⟨_, rfl⟩
  subst hwA
  by_cases hlt : k < kX
  · obtain ⟨x, hx⟩ : ∃ z, PL[k]? = some z := ⟨_, List.getElem?_eq_getElem (by rw [HL.out]; exact hlt)⟩
    obtain ⟨bX, oX, habX, hCX⟩ := HX.out.addr (by rw [HL.out]; omega)
    obtain ⟨bM, oM, habM, hCM⟩ := HM.out.addr (by rw [HL.out]; omega)
    have x0 : wA.cell? ⟨bX, oX + k * 2, none⟩ = some (.int .i64 x.kind) := hCX k x hx wA HBk.out 0 _ rfl
    have x1 : wA.cell? ⟨bX, oX + k * 2 + 1, none⟩ = some (.int .i64 x.idx) := hCX k x hx wA HBk.out 1 _ rfl
    have m0 : wA.cell? ⟨bM, oM + k * 2, none⟩ = some (.int .i64 x.kind) := hCM k x hx wA HBk.out 0 _ rfl
    have m1 : wA.cell? ⟨bM, oM + k * 2 + 1, none⟩ = some (.int .i64 x.idx) := hCM k x hx wA HBk.out 1 _ rfl
    have i1 : (0 : Int) ≤ (k : Nat) := by omega
    have i2 : ((k : Nat) : Int) < kX := by omega
    have hgd := guardEx
    have hnq := neqEx x.kind x.idx
    have HAX := Lib.hid habX
    have HAM := Lib.hid habM
    clear hx hCX hCM habX habM
    rw [HAX.out, HAM.out]
    go_wp2_with fail
    go_quiet (fail)
    have hbq := below_drewN (Below.refl wA.heap.size wA) nq
    have HBD := Lib.hid (HBk.out.trans (hbq.mono HBk.out.size))
    clear hbq x0 x1 m0 m1 hgd hnq
    go_wp2_with fail
    go_roundw
    case rel => exact ⟨k + 1, by omega, by go_num, HBD⟩
    case measure => simp [intOf] <;> omega
  · go_wp2_with fail
    exact HK.out _ _ _ _ _ _ _ _ _ _ _ _ _ _ _ _ _ wA (HBk)

set_option maxHeartbeats 4000000 in
set_option maxRecDepth 1000000 in
theorem part3 {c0 c1 c2 c5 c6 c8 c9 c10 c11 c12 c13 c14 c15 c16 c17 c18 c19 c20 c21 c22 c23 c24 c25 c26 c27 c28 c29 c30 c31 c33 c34 c35 c36 c37 c38 c39 c40 c41 c42 c43 c44 c45 c46 c47 c48 c49 c50 c51 c52 c53 c54 c55 c56 c57 c58 c59 c60 c61 c62 c63 c64 c65 c66 c67 c68 c69 c70 c71 c72 c73 c74 c75 c76 c77 c78 c79 c80 c81 c82 c83 c84 c85 c86 c87 c88 c89 c90 c91 c92 c93 c94 c95 c96 c97 c98 c99 c100 c101 c102 c103 c104 c105 c106 c107 c108 c109 c110 c111 c112 c113 c114 c115 c116 c117 c118 c119 c120 c121 c122 c123 c124 c125 c126 c127 c128 c129 c130 c131 c132 c133 c134 c135 c136 c137 c138 c139 c140 c141 c142 c143 c144 c145 c146 c147 c148 c149 c150 c151 c152 c153 c154 c155 c156 c157 c158 c159 c160 c161 c162 c163 c164 c165 c166 c167 c168 c169 c170 c171 c172 c173 c174 c175 c176 c177 c178 c179 c180 c181 c182 c183 c184 c185 c186 c187 c188 c189 c190 c191 c192 c193 c194 c195 c196 c197 c198 c199 c200 c201 c202 c203 c204 c205 c206 c207 c208 c209 c210 c211 c212 c213 c214 c215 c216 c217 c218 c219 c220 c221 c222 c223 c224 c225 c226 c227 c228 c229 c230 c231 c232 c233 c234 c235 c236 c237 c238 c239 c240 c241 c242 c243 c244 c245 c246 c247 c248 c249 c250 c251 c252 c253 c254 c255 c256 c257 c258 c259 c260 c261 c262 c263 c264 c265 c266 c267 c268 c269 c270 c271 c272 c273 c274 c275 c276 c277 c278 c279 c280 c281 c282 c283 c284 c285 c286 c287 c288 c289 c290 c291 c292 c293 c294 c295 : Value} {K : Act → World → Prop} {Q0 : Exit → Act → World → Prop} {W : World} {cs : List Pt} {sd : Int} {PL : List Ext} {aC aM : Option Addr} {kC cC kX cM : Nat} (hs : 1 ≤ sd ∧ sd ≤ 10) (hk : kX ≤ 101) (hkc : kC ≤ 101) (hcu : CuOk cs) (har : ∀ (k : Nat) (x : Ext), PL[k]? = some x → ∃ i : Nat, x.idx = (i : Int) ∧ i < kC ∧ ∀ (j : Nat) (p q : Pt), cs[j]? = some p → cs[i]? = some q → (i : Int) - sd ≤ j → (j : Int) ≤ i + sd → (x.kind = 1 → ¬ p.mag < q.mag) ∧ (x.kind = 2 → ¬ q.mag < p.mag)) (hl : PL.length = kX) (hlC : cs.length = kC) (hM : Rd Ext.enc 2 W aM PL) (hC : Rd Pt.enc 2 W aC cs)
    (hK : ∀ (u2 u32 u33 u34 u228 u229 u230 u231 u232 u233 u234 u235 u236 u237 u238 u239 u240 u241 u242 u243 u244 u245 u246 u247 u248 u249 u250 u251 u252 u253 u254 u255 u256 u257 u258 u259 u260 u261 u262 u263 u264 u265 u266 u267 u268 u269 u270 u271 u272 u273 u274 u275 u276 u277 u278 u279 u280 u281 u282 u283 u284 u285 u286 u287 u288 u289 u290 u291 u292 u293 u294 u295 : Value) (wx : World), Hid (Below W.heap.size W wx) → K ⟨#[c0, c1, u2, (.slice aC kC cC), (.int .i64 sd), c5, c6, (.slice aM kX cM), c8, c9, c10, c11, c12, c13, c14, c15, c16, c17, c18, c19, c20, c21, c22, c23, c24, c25, c26, c27, c28, c29, c30, c31, u32, u33, u34, c35, c36, c37, c38, c39, c40, c41, c42, c43, c44, c45, c46, c47, c48, c49, c50, c51, c52, c53, c54, c55, c56, c57, c58, c59, c60, c61, c62, c63, c64, c65, c66, c67, c68, c69, c70, c71, c72, c73, c74, c75, c76, c77, c78, c79, c80, c81, c82, c83, c84, c85, c86, c87, c88, c89, c90, c91, c92, c93, c94, c95, c96, c97, c98, c99, c100, c101, c102, c103, c104, c105, c106, c107, c108, c109, c110, c111, c112, c113, c114, c115, c116, c117, c118, c119, c120, c121, c122, c123, c124, c125, c126, c127, c128, c129, c130, c131, c132, c133, c134, c135, c136, c137, c138, c139, c140, c141, c142, c143, c144, c145, c146, c147, c148, c149, c150, c151, c152, c153, c154, c155, c156, c157, c158, c159, c160, c161, c162, c163, c164, c165, c166, c167, c168, c169, c170, c171, c172, c173, c174, c175, c176, c177, c178, c179, c180, c181, c182, c183, c184, c185, c186, c187, c188, c189, c190, c191, c192, c193, c194, c195, c196, c197, c198, c199, c200, c201, c202, c203, c204, c205, c206, c207, c208, c209, c210, c211, c212, c213, c214, c215, c216, c217, c218, c219, c220, c221, c222, c223, c224, c225, c226, c227, u228, u229, u230, u231, u232, u233, u234, u235, u236, u237, u238, u239, u240, u241, u242, u243, u244, u245, u246, u247, u248, u249, u250, u251, u252, u253, u254, u255, u256, u257, u258, u259, u260, u261, u262, u263, u264, u265, u266, u267, u268, u269, u270, u271, u272, u273, u274, u275, u276, u277, u278, u279, u280, u281, u282, u283, u284, u285, u286, u287, u288, u289, u290, u291, u292, u293, u294, u295], []⟩ wx) :
    Code.wp Tryd.prog cdB6 (Exit.then K Q0) ⟨#[c0, c1, c2, (.slice aC kC cC), (.int .i64 sd), c5, c6, (.slice aM kX cM), c8, c9, c10, c11, c12, c13, c14, c15, c16, c17, c18, c19, c20, c21, c22, c23, c24, c25, c26, c27, c28, c29, c30, c31, (.int .i64 0), c33, c34, c35, c36, c37, c38, c39, c40, c41, c42, c43, c44, c45, c46, c47, c48, c49, c50, c51, c52, c53, c54, c55, c56, c57, c58, c59, c60, c61, c62, c63, c64, c65, c66, c67, c68, c69, c70, c71, c72, c73, c74, c75, c76, c77, c78, c79, c80, c81, c82, c83, c84, c85, c86, c87, c88, c89, c90, c91, c92, c93, c94, c95, c96, c97, c98, c99, c100, c101, c102, c103, c104, c105, c106, c107, c108, c109, c110, c111, c112, c113, c114, c115, c116, c117, c118, c119, c120, c121, c122, c123, c124, c125, c126, c127, c128, c129, c130, c131, c132, c133, c134, c135, c136, c137, c138, c139, c140, c141, c142, c143, c144, c145, c146, c147, c148, c149, c150, c151, c152, c153, c154, c155, c156, c157, c158, c159, c160, c161, c162, c163, c164, c165, c166, c167, c168, c169, c170, c171, c172, c173, c174, c175, c176, c177, c178, c179, c180, c181, c182, c183, c184, c185, c186, c187, c188, c189, c190, c191, c192, c193, c194, c195, c196, c197, c198, c199, c200, c201, c202, c203, c204, c205, c206, c207, c208, c209, c210, c211, c212, c213, c214, c215, c216, c217, c218, c219, c220, c221, c222, c223, c224, c225, c226, c227, c228, c229, c230, c231, c232, c233, c234, c235, c236, c237, c238, c239, c240, c241, c242, c243, c244, c245, c246, c247, c248, c249, c250, c251, c252, c253, c254, c255, c256, c257, c258, c259, c260, c261, c262, c263, c264, c265, c266, c267, c268, c269, c270, c271, c272, c273, c274, c275, c276, c277, c278, c279, c280, c281, c282, c283, c284, c285, c286, c287, c288, c289, c290, c291, c292, c293, c294, c295], []⟩ W := by
  have HK := Lib.hid hK
  clear hK
  conv => arg 2; whnf
  have HL := Lib.hid hl
  have HCU := Lib.hid hcu
  have HLC := Lib.hid hlC
  have HAR := Lib.hid har
  have HM := Lib.hid hM
  have HC := Lib.hid hC
  clear hl hcu hlC har hM hC
  go_wp2_with fail
  go_loopw [32, 33, 34] (fun iv s33 s34 wr => ∃ k : Nat, s33 = s33 ∧ s34 = s34 ∧ k ≤ kX ∧ iv = .int .i64 k ∧ Hid (Below W.heap.size W wr)) (fun iv _ _ _ => kX - (intOf iv).toNat)
  case atStart => exact ⟨0, by trivial, by trivial, Nat.zero_le _, rfl, Lib.hid (Below.refl _ _)⟩
  case round =>
  obtain ⟨k, -, -, hkk, rfl, HBk⟩ := hrel
  obtain ⟨wA, hwA⟩ : ∃ wx, wx = wr := ⟨_, rfl⟩
  subst hwA
  by_cases hlt : k < kX
  · obtain ⟨x, hx⟩ : ∃ z, PL[k]? = some z := ⟨_, List.getElem?_eq_getElem (by rw [HL.out]; exact hlt)⟩
    obtain ⟨i, hxi, hi, hnb⟩ := HAR.out k x hx
    obtain ⟨q, hq⟩ : ∃ z, cs[i]? = some z := ⟨_, List.getElem?_eq_getElem (by rw [HLC.out]; exact hi)⟩
    have hqb := HCU.out.ok i q hq
    have HNB := Lib.hid hnb
    have HQ := Lib.hid hq
    have HXK := Lib.hid hx
    obtain ⟨bM, oM, habM, hCM⟩ := HM.out.addr (by rw [HL.out]; omega)
    obtain ⟨bC, oC, habC, hCC⟩ := HC.out.addr (by rw [HLC.out]; omega)
    have HCM := Lib.hid hCM
    have HCC := Lib.hid hCC
    have HAM := Lib.hid habM
    have HAC := Lib.hid habC
    have HXI := Lib.hid hxi
    have i1 : (0 : Int) ≤ (k : Nat) := by omega
    have i2 : ((k : Nat) : Int) < kX := by omega
    have x1 : wA.cell? ⟨bM, oM + k * 2 + 1, none⟩ = some (.int .i64 (i : Int)) := by rw [← hxi]; exact hCM k x hx wA HBk.out 1 _ rfl
    obtain ⟨m0, hm0⟩ : ∃ m : Nat, max (0 : Int) ((i : Int) - sd) = m := ⟨(max (0 : Int) ((i : Int) - sd)).toNat, by omega⟩
    have hm1 : (i : Int) - sd ≤ m0 ∧ m0 ≤ i := by omega
    obtain ⟨D, hD⟩ : ∃ D, (i : Int) - sd = D := ⟨_, rfl⟩
    have i3 : IntKind.i64.wrap ((i : Int) - sd) = D := by rw [IntWalk.i64_in _ (by omega), hD]
    have i4 : (if (0 : Int) < D then D else 0) = (m0 : Int) := by rw [← hD]; split <;> omega
    have i6 : max (0 : Int) D = (m0 : Int) := by rw [← hD]; exact hm0
    clear hx hxi hnb hq hCM hCC habM habC hD hm0
    rw [HAM.out, HAC.out]
    go_wp2_with fail
    clear x1 i3 i4 i6
    have i5 : IntKind.i64.wrap ((i : Int) + sd) = (i : Int) + sd := IntWalk.i64_in _ (by omega)
    go_loopw [34] (fun jv wr => ∃ j : Nat, (m0 ≤ j ∧ j ≤ 300) ∧ jv = .int .i64 j ∧ Hid (Below W.heap.size W wr)) (fun jv _ => 300 - (intOf jv).toNat)
    case atStart => exact ⟨m0, by omega, by first | rfl | go_num, HBk⟩
    case round =>
    obtain ⟨j, hj, rfl, HBj⟩ := hrel
    obtain ⟨wC, hwC⟩ : ∃ wx, wx = wr := ⟨_, rfl⟩
    subst hwC
    by_cases c1 : (j : Int) ≤ (i : Int) + sd
    · have d1 : decide ((j : Int) ≤ (i : Int) + sd) = true := decide_eq_true c1
      by_cases c2 : j < kC
      · have d2 : decide ((j : Int) < (kC : Int)) = true := decide_eq_true (by omega)
        have d2n : decide (j < kC) = true := decide_eq_true c2
        obtain ⟨p, hp⟩ : ∃ z, cs[j]? = some z := ⟨_, List.getElem?_eq_getElem (by rw [HLC.out]; exact c2)⟩
        have hn := HNB.out j p q hp HQ.out (by omega) c1
        have x0 : wC.cell? ⟨bM, oM + k * 2, none⟩ = some (.int .i64 x.kind) := HCM.out k x HXK.out wC HBj.out 0 _ rfl
        have q0 : wC.cell? ⟨bC, oC + i * 2 + 1, none⟩ = some (.int .i64 q.mag) := HCC.out i q HQ.out wC HBj.out 1 _ rfl
        have p0 : wC.cell? ⟨bC, oC + j * 2 + 1, none⟩ = some (.int .i64 p.mag) := HCC.out j p hp wC HBj.out 1 _ rfl
        have j1 : (0 : Int) ≤ (j : Nat) := by omega
        have j2 : ((j : Nat) : Int) < kC := by omega
        have j3 : (0 : Int) ≤ (i : Nat) := by omega
        have j4 : ((i : Nat) : Int) < kC := by omega
        clear hp c1 c2
        by_cases e1 : x.kind = 1
        · have f1 : (x.kind == 1) = true := by rw [beq_iff_eq]; exact e1
          have f2 : (x.kind == 2) = false := by rw [beq_eq_false_iff_ne]; omega
          have g1 : decide (p.mag < q.mag) = false := decide_eq_false (by have := hn.1 e1; omega)
          clear e1 hn
          go_wp2_with fail
          refine wp_region_quiet_lit (by kernel_rfl) (lexR43_of (by kernel_rfl)) ?_
          repeat (go_big_quiet_step (fail))
          refine wpQuiet_nil ?_
          intro _ hw'
          obtain ⟨nq, hw''⟩ := hw'
          subst hw''
          have hbq := below_drewN (Below.refl wC.heap.size wC) nq
          have HBD := Lib.hid (HBj.out.trans (hbq.mono HBj.out.size))
          clear hbq x0 q0 p0
          go_wp2_with fail
          go_roundw
          case rel => exact ⟨j + 1, by omega, by go_num, HBD⟩
          case measure => simp [intOf] <;> omega
        · have f1 : (x.kind == 1) = false := by rw [beq_eq_false_iff_ne]; exact e1
          by_cases e2 : x.kind = 2
          · have f2 : (x.kind == 2) = true := by rw [beq_iff_eq]; exact e2
            have g1 : decide (q.mag < p.mag) = false := decide_eq_false (by have := hn.2 e2; omega)
            clear e1 e2 hn
            go_wp2_with fail
            refine wp_region_quiet_lit (by kernel_rfl) (lexR43_of (by kernel_rfl)) ?_
            repeat (go_big_quiet_step (fail))
            refine wpQuiet_nil ?_
            intro _ hw'
            obtain ⟨nq, hw''⟩ := hw'
            subst hw''
            have hbq := below_drewN (Below.refl wC.heap.size wC) nq
            have HBD := Lib.hid (HBj.out.trans (hbq.mono HBj.out.size))
            clear hbq x0 q0 p0
            go_wp2_with fail
            go_roundw
            case rel => exact ⟨j + 1, by omega, by go_num, HBD⟩
            case measure => simp [intOf] <;> omega
          · have f2 : (x.kind == 2) = false := by rw [beq_eq_false_iff_ne]; exact e2
            clear e1 e2 hn
            go_wp2_with fail
            refine wp_region_quiet_lit (by kernel_rfl) (lexR43_of (by kernel_rfl)) ?_
            repeat (go_big_quiet_step (fail))
            refine wpQuiet_nil ?_
            intro _ hw'
            obtain ⟨nq, hw''⟩ := hw'
            subst hw''
            have hbq := below_drewN (Below.refl wC.heap.size wC) nq
            have HBD := Lib.hid (HBj.out.trans (hbq.mono HBj.out.size))
            clear hbq x0 q0 p0
            go_wp2_with fail
            go_roundw
            case rel => exact ⟨j + 1, by omega, by go_num, HBD⟩
            case measure => simp [intOf] <;> omega
      · have d2 : decide ((j : Int) < (kC : Int)) = false := decide_eq_false (by omega)
        have d2n : decide (j < kC) = false := decide_eq_false c2
        clear c1 c2
        go_wp2_with fail
        go_roundw
        case rel => exact ⟨k + 1, by trivial, by trivial, by omega, by go_num, HBj⟩
        case measure => simp [intOf] <;> omega
    · have d1 : decide ((j : Int) ≤ (i : Int) + sd) = false := decide_eq_false c1
      clear c1
      go_wp2_with fail
      go_roundw
      case rel => exact ⟨k + 1, by trivial, by trivial, by omega, by go_num, HBj⟩
      case measure => simp [intOf] <;> omega
  · go_wp2_with fail
    exact HK.out _ _ _ _ _ _ _ _ _ _ _ _ _ _ _ _ _ _ _ _ _ _ _ _ _ _ _ _ _ _ _ _ _ _ _ _ _ _ _ _ _ _ _ _ _ _ _ _ _ _ _ _ _ _ _ _ _ _ _ _ _ _ _ _ _ _ _ _ _ _ _ _ wA (HBk)

set_option maxHeartbeats 4000000 in
set_option maxRecDepth 1000000 in
theorem part2 {c0 c1 c2 c3 c4 c5 c6 c7 c8 c9 c11 c13 c15 c16 c17 c18 c19 c20 c21 c22 c23 c24 c25 c26 c27 c28 c29 c32 c33 c34 c35 c36 c37 c38 c39 c40 c41 c42 c43 c44 c45 c46 c47 c48 c49 c50 c51 c52 c53 c54 c55 c56 c57 c58 c59 c60 c61 c62 c63 c64 c65 c66 c67 c68 c69 c70 c71 c72 c73 c74 c75 c76 c77 c78 c79 c80 c81 c82 c83 c84 c85 c86 c87 c88 c89 c90 c91 c92 c93 c94 c95 c96 c97 c98 c99 c100 c101 c102 c103 c104 c105 c106 c107 c108 c109 c110 c111 c112 c113 c114 c115 c116 c117 c118 c119 c120 c121 c122 c123 c124 c125 c126 c127 c128 c129 c130 c131 c132 c133 c134 c135 c136 c137 c138 c139 c140 c141 c142 c143 c144 c145 c146 c147 c148 c149 c150 c151 c152 c153 c154 c155 c156 c157 c158 c159 c160 c161 c162 c163 c164 c165 c166 c167 c168 c169 c170 c171 c172 c173 c174 c175 c176 c177 c178 c179 c180 c181 c182 c183 c184 c185 c186 c187 c188 c189 c190 c191 c192 c193 c194 c195 c196 c197 c198 c199 c200 c201 c202 c203 c204 c205 c206 c207 c208 c209 c210 c211 c212 c213 c214 c215 c216 c217 c218 c219 c220 c221 c222 c223 c224 c225 c226 c227 c228 c229 c230 c231 c232 c233 c234 c235 c236 c237 c238 c239 c240 c241 c242 c243 c244 c245 c246 c247 c248 c249 c250 c251 c252 c253 c254 c255 c256 c257 c258 c259 c260 c261 c262 c263 c264 c265 c266 c267 c268 c269 c270 c271 c272 c273 c274 c275 c276 c277 c278 c279 c280 c281 c282 c283 c284 c285 c286 c287 c288 c289 c290 c291 c292 c293 c294 c295 : Value} {K : Act → World → Prop} {Q0 : Exit → Act → World → Prop} {W : World} {DL ls : List Ext} {ff : Nat → Nat} {aE aF aS : Option Addr} {kE cE cF mS cS : Nat} (hk : kE ≤ 101) (hm : mS ≤ 101) (hl : DL.length = kE) (hlS : ls.length = mS) (hE : Rd Ext.enc 2 W aE DL) (hF : Rd Ext.enc 2 W aF DL) (hS : Rd Ext.enc 2 W aS ls) (hf1 : ∀ (i : Nat) (x : Ext), DL[i]? = some x → ls[ff i]? = some x) (hf2 : ∀ i j : Nat, i < j → j < DL.length → ff i < ff j)
    (hK : ∀ (u2 u30 u31 u178 u179 u180 u181 u182 u183 u184 u185 u186 u187 u188 u189 u190 u191 u192 u193 u194 u195 u196 u197 u198 u199 u200 u201 u202 u203 u204 u205 u206 u207 u208 u209 u210 u211 u212 u213 : Value) (wx : World), Hid (Below W.heap.size W wx) → K ⟨#[c0, c1, u2, c3, c4, c5, c6, c7, c8, c9, (.slice aS mS cS), c11, (.slice aE kE cE), c13, (.slice aF kE cF), c15, c16, c17, c18, c19, c20, c21, c22, c23, c24, c25, c26, c27, c28, c29, u30, u31, c32, c33, c34, c35, c36, c37, c38, c39, c40, c41, c42, c43, c44, c45, c46, c47, c48, c49, c50, c51, c52, c53, c54, c55, c56, c57, c58, c59, c60, c61, c62, c63, c64, c65, c66, c67, c68, c69, c70, c71, c72, c73, c74, c75, c76, c77, c78, c79, c80, c81, c82, c83, c84, c85, c86, c87, c88, c89, c90, c91, c92, c93, c94, c95, c96, c97, c98, c99, c100, c101, c102, c103, c104, c105, c106, c107, c108, c109, c110, c111, c112, c113, c114, c115, c116, c117, c118, c119, c120, c121, c122, c123, c124, c125, c126, c127, c128, c129, c130, c131, c132, c133, c134, c135, c136, c137, c138, c139, c140, c141, c142, c143, c144, c145, c146, c147, c148, c149, c150, c151, c152, c153, c154, c155, c156, c157, c158, c159, c160, c161, c162, c163, c164, c165, c166, c167, c168, c169, c170, c171, c172, c173, c174, c175, c176, c177, u178, u179, u180, u181, u182, u183, u184, u185, u186, u187, u188, u189, u190, u191, u192, u193, u194, u195, u196, u197, u198, u199, u200, u201, u202, u203, u204, u205, u206, u207, u208, u209, u210, u211, u212, u213, c214, c215, c216, c217, c218, c219, c220, c221, c222, c223, c224, c225, c226, c227, c228, c229, c230, c231, c232, c233, c234, c235, c236, c237, c238, c239, c240, c241, c242, c243, c244, c245, c246, c247, c248, c249, c250, c251, c252, c253, c254, c255, c256, c257, c258, c259, c260, c261, c262, c263, c264, c265, c266, c267, c268, c269, c270, c271, c272, c273, c274, c275, c276, c277, c278, c279, c280, c281, c282, c283, c284, c285, c286, c287, c288, c289, c290, c291, c292, c293, c294, c295], []⟩ wx) :
    Code.wp Tryd.prog cdB2 (Exit.then K Q0) ⟨#[c0, c1, c2, c3, c4, c5, c6, c7, c8, c9, (.slice aS mS cS), c11, (.slice aE kE cE), c13, (.slice aF kE cF), c15, c16, c17, c18, c19, c20, c21, c22, c23, c24, c25, c26, c27, c28, c29, (.int .i64 0), (.int .i64 0), c32, c33, c34, c35, c36, c37, c38, c39, c40, c41, c42, c43, c44, c45, c46, c47, c48, c49, c50, c51, c52, c53, c54, c55, c56, c57, c58, c59, c60, c61, c62, c63, c64, c65, c66, c67, c68, c69, c70, c71, c72, c73, c74, c75, c76, c77, c78, c79, c80, c81, c82, c83, c84, c85, c86, c87, c88, c89, c90, c91, c92, c93, c94, c95, c96, c97, c98, c99, c100, c101, c102, c103, c104, c105, c106, c107, c108, c109, c110, c111, c112, c113, c114, c115, c116, c117, c118, c119, c120, c121, c122, c123, c124, c125, c126, c127, c128, c129, c130, c131, c132, c133, c134, c135, c136, c137, c138, c139, c140, c141, c142, c143, c144, c145, c146, c147, c148, c149, c150, c151, c152, c153, c154, c155, c156, c157, c158, c159, c160, c161, c162, c163, c164, c165, c166, c167, c168, c169, c170, c171, c172, c173, c174, c175, c176, c177, c178, c179, c180, c181, c182, c183, c184, c185, c186, c187, c188, c189, c190, c191, c192, c193, c194, c195, c196, c197, c198, c199, c200, c201, c202, c203, c204, c205, c206, c207, c208, c209, c210, c211, c212, c213, c214, c215, c216, c217, c218, c219, c220, c221, c222, c223, c224, c225, c226, c227, c228, c229, c230, c231, c232, c233, c234, c235, c236, c237, c238, c239, c240, c241, c242, c243, c244, c245, c246, c247, c248, c249, c250, c251, c252, c253, c254, c255, c256, c257, c258, c259, c260, c261, c262, c263, c264, c265, c266, c267, c268, c269, c270, c271, c272, c273, c274, c275, c276, c277, c278, c279, c280, c281, c282, c283, c284, c285, c286, c287, c288, c289, c290, c291, c292, c293, c294, c295], []⟩ W := by
  have HK := Lib.hid hK
  clear hK
  conv => arg 2; whnf
  have HL := Lib.hid hl
  have HLS := Lib.hid hlS
  have HE := Lib.hid hE
  have HF := Lib.hid hF
  have HS := Lib.hid hS
  have HF1 := Lib.hid hf1
  have HF2 := Lib.hid hf2
  clear hl hlS hE hF hS hf1 hf2
  go_wp2_with fail
  go_loopw [30, 31] (fun kv iv wr => ∃ k i : Nat, i ≤ kE ∧ k ≤ mS ∧ kv = .int .i64 k ∧ iv = .int .i64 i ∧ Hid (i < kE → k ≤ ff i) ∧ Hid (Below W.heap.size W wr)) (fun _ iv _ => kE - (intOf iv).toNat)
  case atStart => exact ⟨0, 0, Nat.zero_le _, Nat.zero_le _, rfl, rfl, Lib.hid fun _ => Nat.zero_le _, Lib.hid (Below.refl _ _)⟩
  case round =>
  obtain ⟨k, i, hii, hkm, rfl, rfl, HKF, HBk⟩ := hrel
  obtain ⟨wA, hwA⟩ : ∃ wx, wx = wr := ⟨_, rfl⟩
  subst hwA
  by_cases hlt : i < kE
  · obtain ⟨x, hx⟩ : ∃ z, DL[i]? = some z := ⟨_, List.getElem?_eq_getElem (by rw [HL.out]; exact hlt)⟩
    have hfx := HF1.out i x hx
    have hfl : ff i < mS := by have := (List.getElem?_eq_some_iff.1 hfx).1; rw [HLS.out] at this; exact this
    have hkf := HKF.out hlt
    obtain ⟨bE, oE, habE, hCE⟩ := HE.out.addr (by rw [HL.out]; omega)
    obtain ⟨bF, oF, habF, hCF⟩ := HF.out.addr (by rw [HL.out]; omega)
    obtain ⟨bS, oS, habS, hCS⟩ := HS.out.addr (by rw [HLS.out]; omega)
    have HCE := Lib.hid hCE
    have HCS := Lib.hid hCS
    have x0 : wA.cell? ⟨bE, oE + i * 2, none⟩ = some (.int .i64 x.kind) := hCE i x hx wA HBk.out 0 _ rfl
    have x1 : wA.cell? ⟨bE, oE + i * 2 + 1, none⟩ = some (.int .i64 x.idx) := hCE i x hx wA HBk.out 1 _ rfl
    have m0 : wA.cell? ⟨bF, oF + i * 2, none⟩ = some (.int .i64 x.kind) := hCF i x hx wA HBk.out 0 _ rfl
    have m1 : wA.cell? ⟨bF, oF + i * 2 + 1, none⟩ = some (.int .i64 x.idx) := hCF i x hx wA HBk.out 1 _ rfl
    have i1 : (0 : Int) ≤ (i : Nat) := by omega
    have i2 : ((i : Nat) : Int) < kE := by omega
    have hgd := guardEx
    have hnq := neqEx x.kind x.idx
    have HAE := Lib.hid habE
    have HAF := Lib.hid habF
    have HAS := Lib.hid habS
    have HX := Lib.hid hx
    have HFX := Lib.hid hfx
    clear hx hfx hCE hCF hCS habE habF habS
    rw [HAE.out, HAF.out, HAS.out]
    go_wp2_with fail
    go_quiet (fail)
    have hbq := below_drewN (Below.refl wA.heap.size wA) nq
    have HBD := Lib.hid (HBk.out.trans (hbq.mono HBk.out.size))
    clear hbq x0 x1 m0 m1 hnq
    go_wp2_with fail
    go_loopw [30] (fun kv wr => ∃ q : Nat, q ≤ ff i ∧ kv = .int .i64 q ∧ Hid (Below W.heap.size W wr)) (fun kv _ => ff i - (intOf kv).toNat)
    case atStart => exact ⟨k, hkf, rfl, HBD⟩
    case round =>
    obtain ⟨q, hq, rfl, HBj⟩ := hrel
    obtain ⟨wC, hwC⟩ : ∃ wx, wx = wr := ⟨_, rfl⟩
    subst hwC
    have d1 : decide ((q : Int) < (mS : Int)) = true := decide_eq_true (by omega)
    have d1n : decide (q < mS) = true := decide_eq_true (by omega)
    obtain ⟨z, hz⟩ : ∃ z, ls[q]? = some z := ⟨_, List.getElem?_eq_getElem (by rw [HLS.out]; omega)⟩
    have z0 : wC.cell? ⟨bS, oS + q * 2, none⟩ = some (.int .i64 z.kind) := HCS.out q z hz wC HBj.out 0 _ rfl
    have z1 : wC.cell? ⟨bS, oS + q * 2 + 1, none⟩ = some (.int .i64 z.idx) := HCS.out q z hz wC HBj.out 1 _ rfl
    have x0 : wC.cell? ⟨bE, oE + i * 2, none⟩ = some (.int .i64 x.kind) := HCE.out i x HX.out wC HBj.out 0 _ rfl
    have x1 : wC.cell? ⟨bE, oE + i * 2 + 1, none⟩ = some (.int .i64 x.idx) := HCE.out i x HX.out wC HBj.out 1 _ rfl
    have j1 : (0 : Int) ≤ (q : Nat) := by omega
    have j2 : ((q : Nat) : Int) < mS := by omega
    obtain ⟨BB, hBB⟩ : ∃ BB, (!(decide (z.kind = x.kind) && decide (z.idx = x.idx))) = BB := ⟨_, rfl⟩
    have hn2 := neqE2 z.kind z.idx x.kind x.idx
    rw [hBB] at hn2
    have HZ := Lib.hid hz
    have HBB := Lib.hid hBB
    clear hz hBB
    cases BB with
    | true =>
      have hqf : q ≠ ff i := fun e => by
        have h9 := HZ.out
        rw [e, HFX.out] at h9
        cases h9
        have h8 := HBB.out
        simp at h8
      go_wp2_with fail
      go_quiet (fail)
      have hbq := below_drewN (Below.refl wC.heap.size wC) nq
      have HBQ := Lib.hid (HBj.out.trans (hbq.mono HBj.out.size))
      clear hbq z0 z1 x0 x1 hn2
      go_wp2_with fail
      go_roundw
      case rel => exact ⟨q + 1, by omega, by go_num, HBQ⟩
      case measure => simp [intOf] <;> omega
    | false =>
      have e0 : ((q : Int) == (mS : Int)) = false := by rw [beq_eq_false_iff_ne]; omega
      have e0n : (q == mS) = false := by rw [beq_eq_false_iff_ne]; omega
      have hnx : i + 1 < kE → q ≤ ff (i + 1) := fun h9 => by have := HF2.out i (i + 1) (by omega) (by rw [HL.out]; exact h9); omega
      have HNX := Lib.hid hnx
      clear hnx
      go_wp2_with fail
      go_quiet (fail)
      have hbq := below_drewN (Below.refl wC.heap.size wC) nq
      have HBQ := Lib.hid (HBj.out.trans (hbq.mono HBj.out.size))
      clear hbq z0 z1 x0 x1 hn2
      go_wp2_with fail
      go_roundw
      case rel => exact ⟨q, i + 1, by omega, by omega, rfl, by go_num, HNX, HBQ⟩
      case measure => simp [intOf] <;> omega
  · go_wp2_with fail
    exact HK.out _ _ _ _ _ _ _ _ _ _ _ _ _ _ _ _ _ _ _ _ _ _ _ _ _ _ _ _ _ _ _ _ _ _ _ _ _ _ _ wA (HBk)
end Go.Proofs.YtjmojfbebcgjeaaDoor
