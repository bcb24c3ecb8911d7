/-
  Parts of the law FnCorrections: its loop.
-/
import Derived.Test.YtdcldiadjdpaeaaCoR
import Derived.Test.YtdcldiadjdpaeaaCo8
import Derived.Test.YtdcldiadjdpaeaaCo9
import Derived.Test.YtdcldiadjdpaeaaCoA
import Derived.Test.YtdcldiadjdpaeaaF6
import Derived.Deep.CutRange
import Derived.Deep.Light
namespace Go.Proofs.Ytdcldiadjdpaeaa
open Go.RowKit
set_option maxRecDepth 100000
set_option linter.unusedVariables false
set_option linter.unusedSimpArgs false
/-- the statement 'if' over a slot; a block -/
def findC (n : Nat) : Code → Option Code
  | .cond (.tmp k) a b => if k = n then some (.cond (.tmp k) a b) else match findC n a with
    | some x => some x
    | none => findC n b
  | .seq a b => match findC n a with
    | some x => some x
    | none => findC n b
  | .loop c => findC n c
  | .block _ c => findC n c
  | .scope c => findC n c
  | _ => none
def findB (n : Nat) : Code → Option Code
  | .block id c => if id = n then some (.block id c) else findB n c
  | .cond _ a b => match findB n a with
    | some x => some x
    | none => findB n b
  | .seq a b => match findB n a with
    | some x => some x
    | none => findB n b
  | .loop c => findB n c
  | .scope c => findB n c
  | _ => none
noncomputable def cdB0 : Code := ((Try.f3.body.bind (findB 0)).getD .skip)
set_option maxHeartbeats 4000000 in
set_option maxRecDepth 1000000 in
theorem part1 {c0 c1 c2 c5 c6 c7 c8 c9 c10 c11 c13 c14 c15 c16 c17 c18 c19 c20 c21 c22 c23 c24 c25 c26 c27 c28 c29 c30 c32 c33 c34 c35 c36 c37 c38 c39 c40 c41 c42 c43 c44 c45 c46 c47 c48 c49 c50 c51 c52 c53 c54 c55 c56 c57 c58 c59 c60 c61 c62 c63 c64 c65 c66 c67 c68 c69 c70 c71 c72 c73 c74 c75 c76 c77 c78 c79 c80 c81 c82 c83 c84 c85 c86 c87 c88 c89 c90 c91 c92 c93 c94 c95 c96 c97 c98 c99 c100 c101 c102 c103 c104 c105 c106 c107 c108 c109 c110 c111 c112 c113 c114 c115 c116 c117 c118 c119 c120 c121 c122 c123 c124 c125 c126 c127 c128 c129 c130 c131 c132 c133 c134 c135 c136 c137 c138 c139 c140 c141 c142 c143 c144 c145 c146 c147 c148 c149 c150 c151 c152 c153 c154 c155 c156 c157 c158 c159 c160 c161 c162 c163 c164 c165 c166 c167 c168 c169 c170 c171 c172 c173 c174 c175 c176 c177 c178 c179 c180 c181 c182 c183 c184 c185 c186 c187 c188 c189 c190 c191 c192 c193 c194 c195 c196 c197 c198 c199 c200 c201 c202 c203 c204 c205 c206 c207 c208 c209 c210 c211 c212 c213 c214 c215 c216 c217 c218 c219 c220 c221 c222 c223 c224 c225 c226 c227 c228 c229 c230 c231 c232 c233 c234 c235 c236 c237 c238 c239 c240 c241 c242 c243 c244 c245 c246 c247 c248 c249 c250 c251 c252 c253 c254 c255 c256 c257 c258 c259 c260 c261 c262 c263 : Value} {K : Act → World → Prop} {Q0 : Exit → Act → World → Prop} {W : World} {cn : Int} {LD : List Com} {SU : List Int} {aD aV : Option Addr} {kD cD nU cV : Nat} (hk : nU ≤ 40) (hkD : kD ≤ 61) (hl : SU.length = nU) (hlD : LD.length = kD) (hPB : ∀ c, c ∈ SU → lnC cn LD c = 0 ∧ ∀ Y, LkP cn LD c Y → Y = SU) (hV : Rd eI 1 W aV SU) (hD : Rd Com.enc 3 W aD LD)
    (hK : ∀ (u2 u31 u32 u33 u191 u192 u193 u194 u195 u196 u197 u198 u199 u200 u201 u202 u203 u204 u205 u206 u207 u208 u209 u210 u211 u212 u213 u214 : Value) (wx : World), Hid (Below W.heap.size W wx) → K ⟨#[c0, c1, u2, (.int .i64 cn), (.slice aD kD cD), c5, c6, c7, c8, c9, c10, c11, (.slice aV nU cV), c13, c14, c15, c16, c17, c18, c19, c20, c21, c22, c23, c24, c25, c26, c27, c28, c29, c30, u31, u32, u33, c34, c35, c36, c37, c38, c39, c40, c41, c42, c43, c44, c45, c46, c47, c48, c49, c50, c51, c52, c53, c54, c55, c56, c57, c58, c59, c60, c61, c62, c63, c64, c65, c66, c67, c68, c69, c70, c71, c72, c73, c74, c75, c76, c77, c78, c79, c80, c81, c82, c83, c84, c85, c86, c87, c88, c89, c90, c91, c92, c93, c94, c95, c96, c97, c98, c99, c100, c101, c102, c103, c104, c105, c106, c107, c108, c109, c110, c111, c112, c113, c114, c115, c116, c117, c118, c119, c120, c121, c122, c123, c124, c125, c126, c127, c128, c129, c130, c131, c132, c133, c134, c135, c136, c137, c138, c139, c140, c141, c142, c143, c144, c145, c146, c147, c148, c149, c150, c151, c152, c153, c154, c155, c156, c157, c158, c159, c160, c161, c162, c163, c164, c165, c166, c167, c168, c169, c170, c171, c172, c173, c174, c175, c176, c177, c178, c179, c180, c181, c182, c183, c184, c185, c186, c187, c188, c189, c190, u191, u192, u193, u194, u195, u196, u197, u198, u199, u200, u201, u202, u203, u204, u205, u206, u207, u208, u209, u210, u211, u212, u213, u214, c215, c216, c217, c218, c219, c220, c221, c222, c223, c224, c225, c226, c227, c228, c229, c230, c231, c232, c233, c234, c235, c236, c237, c238, c239, c240, c241, c242, c243, c244, c245, c246, c247, c248, c249, c250, c251, c252, c253, c254, c255, c256, c257, c258, c259, c260, c261, c262, c263], []⟩ wx) :
    Code.wp Try.prog cdB0 (Exit.then K Q0) ⟨#[c0, c1, c2, (.int .i64 cn), (.slice aD kD cD), c5, c6, c7, c8, c9, c10, c11, (.slice aV nU cV), c13, c14, c15, c16, c17, c18, c19, c20, c21, c22, c23, c24, c25, c26, c27, c28, c29, c30, (.int .i64 0), c32, c33, c34, c35, c36, c37, c38, c39, c40, c41, c42, c43, c44, c45, c46, c47, c48, c49, c50, c51, c52, c53, c54, c55, c56, c57, c58, c59, c60, c61, c62, c63, c64, c65, c66, c67, c68, c69, c70, c71, c72, c73, c74, c75, c76, c77, c78, c79, c80, c81, c82, c83, c84, c85, c86, c87, c88, c89, c90, c91, c92, c93, c94, c95, c96, c97, c98, c99, c100, c101, c102, c103, c104, c105, c106, c107, c108, c109, c110, c111, c112, c113, c114, c115, c116, c117, c118, c119, c120, c121, c122, c123, c124, c125, c126, c127, c128, c129, c130, c131, c132, c133, c134, c135, c136, c137, c138, c139, c140, c141, c142, c143, c144, c145, c146, c147, c148, c149, c150, c151, c152, c153, c154, c155, c156, c157, c158, c159, c160, c161, c162, c163, c164, c165, c166, c167, c168, c169, c170, c171, c172, c173, c174, c175, c176, c177, c178, c179, c180, c181, c182, c183, c184, c185, c186, c187, c188, c189, c190, c191, c192, c193, c194, c195, c196, c197, c198, c199, c200, c201, c202, c203, c204, c205, c206, c207, c208, c209, c210, c211, c212, c213, c214, c215, c216, c217, c218, c219, c220, c221, c222, c223, c224, c225, c226, c227, c228, c229, c230, c231, c232, c233, c234, c235, c236, c237, c238, c239, c240, c241, c242, c243, c244, c245, c246, c247, c248, c249, c250, c251, c252, c253, c254, c255, c256, c257, c258, c259, c260, c261, c262, c263], []⟩ W := by
  have HK := Lib.hid hK
  clear hK
  conv => arg 2; whnf
  have HLU := Lib.hid hl
  have HLD := Lib.hid hlD
  have HPB := Lib.hid hPB
  have HV := Lib.hid hV
  have HD := Lib.hid hD
  clear hl hlD hPB hV hD
  go_wp2_with fail
  go_loopw [31, 32, 33] (fun iv s32 s33 wr => ∃ k : Nat, s32 = s32 ∧ s33 = s33 ∧ k ≤ nU ∧ iv = .int .i64 k ∧ Hid (Below W.heap.size W wr)) (fun iv _ _ _ => nU - (intOf iv).toNat)
  case atStart => exact ⟨0, by trivial, by trivial, Nat.zero_le _, rfl, Lib.hid (Below.refl _ _)⟩
  case round =>
  obtain ⟨k, -, -, hkk, rfl, HBk⟩ := hrel
  obtain ⟨wA, hwA⟩ : ∃ wx, wx = wr := ⟨_, rfl⟩
  subst hwA
  by_cases hlt : k < nU
  · obtain ⟨x, hx⟩ : ∃ z, SU[k]? = some z := ⟨_, List.getElem?_eq_getElem (by rw [HLU.out]; exact hlt)⟩
    obtain ⟨hz, hy⟩ := HPB.out x (List.mem_of_getElem? hx)
    obtain ⟨bV, oV, habV, hCV⟩ := HV.out.addr1 (f := fun x => Value.int .i64 x) (by rw [HLU.out]; omega) (fun _ => rfl)
    have x0 : wA.cell? ⟨bV, oV + k, none⟩ = some (.int .i64 x) := hCV k x hx wA HBk.out
    have HAV := Lib.hid habV
    have HZ := Lib.hid hz
    have HY := Lib.hid hy
    have HRDk := Lib.hid (HD.out.below HBk.out)
    have HRVk := Lib.hid (HV.out.below HBk.out)
    have i1 : (0 : Int) ≤ (k : Nat) := by omega
    have i2 : ((k : Nat) : Int) < nU := by omega
    clear hx hCV habV hz hy
    rw [HAV.out]
    rw [HAV.out] at HRVk
    go_wp2_with fail
    refine (imLk cn LD x aD kD cD _ (by omega) HLD.out HRDk.out).mono ?_
    rintro e wB ⟨aY, nY, cY, SY, rfl, hnY, hoY, hpY, hbY⟩
    rw [HZ.out]
    have e9 := HY.out _ hpY
    have HRY0 := hoY.rd eI_len (by decide)
    have hl9 := hoY.len eI_len (by decide)
    rw [e9] at HRY0 hl9
    have HRY := Lib.hid HRY0
    have hn9 : nY = nU := hl9.symm.trans HLU.out
    have HRVY := Lib.hid (HRVk.out.below hbY)
    have HBY := Lib.hid (HBk.out.trans (hbY.mono HBk.out.size))
    clear hoY hpY hbY x0 e9 HRY0 hl9
    rw [hn9]
    clear hn9
    go_wp2_with fail
    refine (f6ints_eq SU aY (some ⟨bV, oV, none⟩) nU cY cV _ (by omega) HLU.out HRY.out HRVY.out).mono ?_
    rintro e wC ⟨rfl, hbC⟩
    have HBC := Lib.hid (HBY.out.trans (hbC.mono HBY.out.size))
    clear hbC
    go_wp2_with fail
    go_roundw
    case rel => exact ⟨k + 1, by trivial, by trivial, by omega, by go_num, HBC⟩
    case measure => simp [intOf] <;> omega
  · go_wp2_with fail
    exact HK.out _ _ _ _ _ _ _ _ _ _ _ _ _ _ _ _ _ _ _ _ _ _ _ _ _ _ _ _ wA (HBk)
end Go.Proofs.Ytdcldiadjdpaeaa
