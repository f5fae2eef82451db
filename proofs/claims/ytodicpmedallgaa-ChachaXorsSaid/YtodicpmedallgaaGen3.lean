/- Go functions as predicate transformers, written by a program of this session (gen.py), with their soundness. -/
import Derived.Test.YtodicpmedallgaaGen2
set_option linter.unusedVariables false
set_option linter.unusedSimpArgs false
set_option maxRecDepth 100000
namespace Go.Proofs.Ytodicpmedallgaa.G
open Go Go.Proofs.Ytodicpmedallgaa.Vm
/-! ### valise/valiseref26.Block: function 30 -/
def ref26_Block.l3 : Nat → Int → Addr → Addr → Addr → Addr → Int → World → (Int → Addr → Addr → Addr → World → Prop) → Prop
  | 0, _, _, _, _, _, _, _, _ => False
  | N + 1, y1, y3, y5, y6, y7, y8, w, K0 =>
    bif (decide (y8 < 8)) then
      bnd 32 32 (some (Value.int .i64 (IntKind.wrap .i64 (4 * y8)))) (some (Value.int .i64 (IntKind.wrap .i64 ((IntKind.wrap .i64 (4 * y8)) + 4)))) fun l_12 h_13 =>
      ref26_little.f (adrS (some y3) l_12 32 1) (h_13 - l_12) (32 - l_12) w fun r28_14 w =>
      if 0 ≤ ((IntKind.wrap .i64 (4 + y8)) : Int) ∧ ((IntKind.wrap .i64 (4 + y8)) : Int) < ((16 : Nat) : Int) then
      stC (y7.add (Int.toNat (IntKind.wrap .i64 (4 + y8)))) (Value.int .u32 r28_14) w fun w =>
      let v8_15 := (IntKind.wrap .i64 (y8 + 1))
      ref26_Block.l3 N y1 y3 y5 y6 y7 v8_15 w K0
      else False
    else
      K0 y1 y5 y6 y7 w

def ref26_Block.l8 : Nat → Addr → Addr → Addr → Int → World → (Addr → Addr → World → Prop) → Prop
  | 0, _, _, _, _, _, _ => False
  | N + 1, y5, y6, y7, y9, w, K2 =>
    bif (decide (y9 < 3)) then
      bnd 12 12 (some (Value.int .i64 (IntKind.wrap .i64 (4 * y9)))) (some (Value.int .i64 (IntKind.wrap .i64 ((IntKind.wrap .i64 (4 * y9)) + 4)))) fun l_27 h_28 =>
      ref26_little.f (adrS (some y5) l_27 12 1) (h_28 - l_27) (12 - l_27) w fun r44_29 w =>
      if 0 ≤ ((IntKind.wrap .i64 (13 + y9)) : Int) ∧ ((IntKind.wrap .i64 (13 + y9)) : Int) < ((16 : Nat) : Int) then
      stC (y7.add (Int.toNat (IntKind.wrap .i64 (13 + y9)))) (Value.int .u32 r44_29) w fun w =>
      let v9_30 := (IntKind.wrap .i64 (y9 + 1))
      ref26_Block.l8 N y5 y6 y7 v9_30 w K2
      else False
    else
      K2 y6 y7 w

def ref26_Block.l13 : Nat → Addr → Addr → Addr → Int → World → (Addr → Addr → Addr → World → Prop) → Prop
  | 0, _, _, _, _, _, _ => False
  | N + 1, y6, y7, y10, y11, w, K4 =>
    bif (decide (y11 < 10)) then
      ldI .u32 (y10.add 0) w fun x51_58 =>
      ldI .u32 (y10.add 1) w fun x51_59 =>
      ldI .u32 (y10.add 2) w fun x51_60 =>
      ldI .u32 (y10.add 3) w fun x51_61 =>
      ldI .u32 (y10.add 4) w fun x51_62 =>
      ldI .u32 (y10.add 5) w fun x51_63 =>
      ldI .u32 (y10.add 6) w fun x51_64 =>
      ldI .u32 (y10.add 7) w fun x51_65 =>
      ldI .u32 (y10.add 8) w fun x51_66 =>
      ldI .u32 (y10.add 9) w fun x51_67 =>
      ldI .u32 (y10.add 10) w fun x51_68 =>
      ldI .u32 (y10.add 11) w fun x51_69 =>
      ldI .u32 (y10.add 12) w fun x51_70 =>
      ldI .u32 (y10.add 13) w fun x51_71 =>
      ldI .u32 (y10.add 14) w fun x51_72 =>
      ldI .u32 (y10.add 15) w fun x51_73 =>
      ref26_round.f x51_58 x51_59 x51_60 x51_61 x51_62 x51_63 x51_64 x51_65 x51_66 x51_67 x51_68 x51_69 x51_70 x51_71 x51_72 x51_73 0 4 8 12 w fun r52_74_0 r52_74_1 r52_74_2 r52_74_3 r52_74_4 r52_74_5 r52_74_6 r52_74_7 r52_74_8 r52_74_9 r52_74_10 r52_74_11 r52_74_12 r52_74_13 r52_74_14 r52_74_15 w =>
      stCs y10 [(Value.int .u32 r52_74_0), (Value.int .u32 r52_74_1), (Value.int .u32 r52_74_2), (Value.int .u32 r52_74_3), (Value.int .u32 r52_74_4), (Value.int .u32 r52_74_5), (Value.int .u32 r52_74_6), (Value.int .u32 r52_74_7), (Value.int .u32 r52_74_8), (Value.int .u32 r52_74_9), (Value.int .u32 r52_74_10), (Value.int .u32 r52_74_11), (Value.int .u32 r52_74_12), (Value.int .u32 r52_74_13), (Value.int .u32 r52_74_14), (Value.int .u32 r52_74_15)] 0 w fun w =>
      ldI .u32 (y10.add 0) w fun x53_76 =>
      ldI .u32 (y10.add 1) w fun x53_77 =>
      ldI .u32 (y10.add 2) w fun x53_78 =>
      ldI .u32 (y10.add 3) w fun x53_79 =>
      ldI .u32 (y10.add 4) w fun x53_80 =>
      ldI .u32 (y10.add 5) w fun x53_81 =>
      ldI .u32 (y10.add 6) w fun x53_82 =>
      ldI .u32 (y10.add 7) w fun x53_83 =>
      ldI .u32 (y10.add 8) w fun x53_84 =>
      ldI .u32 (y10.add 9) w fun x53_85 =>
      ldI .u32 (y10.add 10) w fun x53_86 =>
      ldI .u32 (y10.add 11) w fun x53_87 =>
      ldI .u32 (y10.add 12) w fun x53_88 =>
      ldI .u32 (y10.add 13) w fun x53_89 =>
      ldI .u32 (y10.add 14) w fun x53_90 =>
      ldI .u32 (y10.add 15) w fun x53_91 =>
      ref26_round.f x53_76 x53_77 x53_78 x53_79 x53_80 x53_81 x53_82 x53_83 x53_84 x53_85 x53_86 x53_87 x53_88 x53_89 x53_90 x53_91 1 5 9 13 w fun r54_92_0 r54_92_1 r54_92_2 r54_92_3 r54_92_4 r54_92_5 r54_92_6 r54_92_7 r54_92_8 r54_92_9 r54_92_10 r54_92_11 r54_92_12 r54_92_13 r54_92_14 r54_92_15 w =>
      stCs y10 [(Value.int .u32 r54_92_0), (Value.int .u32 r54_92_1), (Value.int .u32 r54_92_2), (Value.int .u32 r54_92_3), (Value.int .u32 r54_92_4), (Value.int .u32 r54_92_5), (Value.int .u32 r54_92_6), (Value.int .u32 r54_92_7), (Value.int .u32 r54_92_8), (Value.int .u32 r54_92_9), (Value.int .u32 r54_92_10), (Value.int .u32 r54_92_11), (Value.int .u32 r54_92_12), (Value.int .u32 r54_92_13), (Value.int .u32 r54_92_14), (Value.int .u32 r54_92_15)] 0 w fun w =>
      ldI .u32 (y10.add 0) w fun x55_94 =>
      ldI .u32 (y10.add 1) w fun x55_95 =>
      ldI .u32 (y10.add 2) w fun x55_96 =>
      ldI .u32 (y10.add 3) w fun x55_97 =>
      ldI .u32 (y10.add 4) w fun x55_98 =>
      ldI .u32 (y10.add 5) w fun x55_99 =>
      ldI .u32 (y10.add 6) w fun x55_100 =>
      ldI .u32 (y10.add 7) w fun x55_101 =>
      ldI .u32 (y10.add 8) w fun x55_102 =>
      ldI .u32 (y10.add 9) w fun x55_103 =>
      ldI .u32 (y10.add 10) w fun x55_104 =>
      ldI .u32 (y10.add 11) w fun x55_105 =>
      ldI .u32 (y10.add 12) w fun x55_106 =>
      ldI .u32 (y10.add 13) w fun x55_107 =>
      ldI .u32 (y10.add 14) w fun x55_108 =>
      ldI .u32 (y10.add 15) w fun x55_109 =>
      ref26_round.f x55_94 x55_95 x55_96 x55_97 x55_98 x55_99 x55_100 x55_101 x55_102 x55_103 x55_104 x55_105 x55_106 x55_107 x55_108 x55_109 2 6 10 14 w fun r56_110_0 r56_110_1 r56_110_2 r56_110_3 r56_110_4 r56_110_5 r56_110_6 r56_110_7 r56_110_8 r56_110_9 r56_110_10 r56_110_11 r56_110_12 r56_110_13 r56_110_14 r56_110_15 w =>
      stCs y10 [(Value.int .u32 r56_110_0), (Value.int .u32 r56_110_1), (Value.int .u32 r56_110_2), (Value.int .u32 r56_110_3), (Value.int .u32 r56_110_4), (Value.int .u32 r56_110_5), (Value.int .u32 r56_110_6), (Value.int .u32 r56_110_7), (Value.int .u32 r56_110_8), (Value.int .u32 r56_110_9), (Value.int .u32 r56_110_10), (Value.int .u32 r56_110_11), (Value.int .u32 r56_110_12), (Value.int .u32 r56_110_13), (Value.int .u32 r56_110_14), (Value.int .u32 r56_110_15)] 0 w fun w =>
      ldI .u32 (y10.add 0) w fun x57_112 =>
      ldI .u32 (y10.add 1) w fun x57_113 =>
      ldI .u32 (y10.add 2) w fun x57_114 =>
      ldI .u32 (y10.add 3) w fun x57_115 =>
      ldI .u32 (y10.add 4) w fun x57_116 =>
      ldI .u32 (y10.add 5) w fun x57_117 =>
      ldI .u32 (y10.add 6) w fun x57_118 =>
      ldI .u32 (y10.add 7) w fun x57_119 =>
      ldI .u32 (y10.add 8) w fun x57_120 =>
      ldI .u32 (y10.add 9) w fun x57_121 =>
      ldI .u32 (y10.add 10) w fun x57_122 =>
      ldI .u32 (y10.add 11) w fun x57_123 =>
      ldI .u32 (y10.add 12) w fun x57_124 =>
      ldI .u32 (y10.add 13) w fun x57_125 =>
      ldI .u32 (y10.add 14) w fun x57_126 =>
      ldI .u32 (y10.add 15) w fun x57_127 =>
      ref26_round.f x57_112 x57_113 x57_114 x57_115 x57_116 x57_117 x57_118 x57_119 x57_120 x57_121 x57_122 x57_123 x57_124 x57_125 x57_126 x57_127 3 7 11 15 w fun r58_128_0 r58_128_1 r58_128_2 r58_128_3 r58_128_4 r58_128_5 r58_128_6 r58_128_7 r58_128_8 r58_128_9 r58_128_10 r58_128_11 r58_128_12 r58_128_13 r58_128_14 r58_128_15 w =>
      stCs y10 [(Value.int .u32 r58_128_0), (Value.int .u32 r58_128_1), (Value.int .u32 r58_128_2), (Value.int .u32 r58_128_3), (Value.int .u32 r58_128_4), (Value.int .u32 r58_128_5), (Value.int .u32 r58_128_6), (Value.int .u32 r58_128_7), (Value.int .u32 r58_128_8), (Value.int .u32 r58_128_9), (Value.int .u32 r58_128_10), (Value.int .u32 r58_128_11), (Value.int .u32 r58_128_12), (Value.int .u32 r58_128_13), (Value.int .u32 r58_128_14), (Value.int .u32 r58_128_15)] 0 w fun w =>
      ldI .u32 (y10.add 0) w fun x59_130 =>
      ldI .u32 (y10.add 1) w fun x59_131 =>
      ldI .u32 (y10.add 2) w fun x59_132 =>
      ldI .u32 (y10.add 3) w fun x59_133 =>
      ldI .u32 (y10.add 4) w fun x59_134 =>
      ldI .u32 (y10.add 5) w fun x59_135 =>
      ldI .u32 (y10.add 6) w fun x59_136 =>
      ldI .u32 (y10.add 7) w fun x59_137 =>
      ldI .u32 (y10.add 8) w fun x59_138 =>
      ldI .u32 (y10.add 9) w fun x59_139 =>
      ldI .u32 (y10.add 10) w fun x59_140 =>
      ldI .u32 (y10.add 11) w fun x59_141 =>
      ldI .u32 (y10.add 12) w fun x59_142 =>
      ldI .u32 (y10.add 13) w fun x59_143 =>
      ldI .u32 (y10.add 14) w fun x59_144 =>
      ldI .u32 (y10.add 15) w fun x59_145 =>
      ref26_round.f x59_130 x59_131 x59_132 x59_133 x59_134 x59_135 x59_136 x59_137 x59_138 x59_139 x59_140 x59_141 x59_142 x59_143 x59_144 x59_145 0 5 10 15 w fun r60_146_0 r60_146_1 r60_146_2 r60_146_3 r60_146_4 r60_146_5 r60_146_6 r60_146_7 r60_146_8 r60_146_9 r60_146_10 r60_146_11 r60_146_12 r60_146_13 r60_146_14 r60_146_15 w =>
      stCs y10 [(Value.int .u32 r60_146_0), (Value.int .u32 r60_146_1), (Value.int .u32 r60_146_2), (Value.int .u32 r60_146_3), (Value.int .u32 r60_146_4), (Value.int .u32 r60_146_5), (Value.int .u32 r60_146_6), (Value.int .u32 r60_146_7), (Value.int .u32 r60_146_8), (Value.int .u32 r60_146_9), (Value.int .u32 r60_146_10), (Value.int .u32 r60_146_11), (Value.int .u32 r60_146_12), (Value.int .u32 r60_146_13), (Value.int .u32 r60_146_14), (Value.int .u32 r60_146_15)] 0 w fun w =>
      ldI .u32 (y10.add 0) w fun x61_148 =>
      ldI .u32 (y10.add 1) w fun x61_149 =>
      ldI .u32 (y10.add 2) w fun x61_150 =>
      ldI .u32 (y10.add 3) w fun x61_151 =>
      ldI .u32 (y10.add 4) w fun x61_152 =>
      ldI .u32 (y10.add 5) w fun x61_153 =>
      ldI .u32 (y10.add 6) w fun x61_154 =>
      ldI .u32 (y10.add 7) w fun x61_155 =>
      ldI .u32 (y10.add 8) w fun x61_156 =>
      ldI .u32 (y10.add 9) w fun x61_157 =>
      ldI .u32 (y10.add 10) w fun x61_158 =>
      ldI .u32 (y10.add 11) w fun x61_159 =>
      ldI .u32 (y10.add 12) w fun x61_160 =>
      ldI .u32 (y10.add 13) w fun x61_161 =>
      ldI .u32 (y10.add 14) w fun x61_162 =>
      ldI .u32 (y10.add 15) w fun x61_163 =>
      ref26_round.f x61_148 x61_149 x61_150 x61_151 x61_152 x61_153 x61_154 x61_155 x61_156 x61_157 x61_158 x61_159 x61_160 x61_161 x61_162 x61_163 1 6 11 12 w fun r62_164_0 r62_164_1 r62_164_2 r62_164_3 r62_164_4 r62_164_5 r62_164_6 r62_164_7 r62_164_8 r62_164_9 r62_164_10 r62_164_11 r62_164_12 r62_164_13 r62_164_14 r62_164_15 w =>
      stCs y10 [(Value.int .u32 r62_164_0), (Value.int .u32 r62_164_1), (Value.int .u32 r62_164_2), (Value.int .u32 r62_164_3), (Value.int .u32 r62_164_4), (Value.int .u32 r62_164_5), (Value.int .u32 r62_164_6), (Value.int .u32 r62_164_7), (Value.int .u32 r62_164_8), (Value.int .u32 r62_164_9), (Value.int .u32 r62_164_10), (Value.int .u32 r62_164_11), (Value.int .u32 r62_164_12), (Value.int .u32 r62_164_13), (Value.int .u32 r62_164_14), (Value.int .u32 r62_164_15)] 0 w fun w =>
      ldI .u32 (y10.add 0) w fun x63_166 =>
      ldI .u32 (y10.add 1) w fun x63_167 =>
      ldI .u32 (y10.add 2) w fun x63_168 =>
      ldI .u32 (y10.add 3) w fun x63_169 =>
      ldI .u32 (y10.add 4) w fun x63_170 =>
      ldI .u32 (y10.add 5) w fun x63_171 =>
      ldI .u32 (y10.add 6) w fun x63_172 =>
      ldI .u32 (y10.add 7) w fun x63_173 =>
      ldI .u32 (y10.add 8) w fun x63_174 =>
      ldI .u32 (y10.add 9) w fun x63_175 =>
      ldI .u32 (y10.add 10) w fun x63_176 =>
      ldI .u32 (y10.add 11) w fun x63_177 =>
      ldI .u32 (y10.add 12) w fun x63_178 =>
      ldI .u32 (y10.add 13) w fun x63_179 =>
      ldI .u32 (y10.add 14) w fun x63_180 =>
      ldI .u32 (y10.add 15) w fun x63_181 =>
      ref26_round.f x63_166 x63_167 x63_168 x63_169 x63_170 x63_171 x63_172 x63_173 x63_174 x63_175 x63_176 x63_177 x63_178 x63_179 x63_180 x63_181 2 7 8 13 w fun r64_182_0 r64_182_1 r64_182_2 r64_182_3 r64_182_4 r64_182_5 r64_182_6 r64_182_7 r64_182_8 r64_182_9 r64_182_10 r64_182_11 r64_182_12 r64_182_13 r64_182_14 r64_182_15 w =>
      stCs y10 [(Value.int .u32 r64_182_0), (Value.int .u32 r64_182_1), (Value.int .u32 r64_182_2), (Value.int .u32 r64_182_3), (Value.int .u32 r64_182_4), (Value.int .u32 r64_182_5), (Value.int .u32 r64_182_6), (Value.int .u32 r64_182_7), (Value.int .u32 r64_182_8), (Value.int .u32 r64_182_9), (Value.int .u32 r64_182_10), (Value.int .u32 r64_182_11), (Value.int .u32 r64_182_12), (Value.int .u32 r64_182_13), (Value.int .u32 r64_182_14), (Value.int .u32 r64_182_15)] 0 w fun w =>
      ldI .u32 (y10.add 0) w fun x65_183 =>
      ldI .u32 (y10.add 1) w fun x65_184 =>
      ldI .u32 (y10.add 2) w fun x65_185 =>
      ldI .u32 (y10.add 3) w fun x65_186 =>
      ldI .u32 (y10.add 4) w fun x65_187 =>
      ldI .u32 (y10.add 5) w fun x65_188 =>
      ldI .u32 (y10.add 6) w fun x65_189 =>
      ldI .u32 (y10.add 7) w fun x65_190 =>
      ldI .u32 (y10.add 8) w fun x65_191 =>
      ldI .u32 (y10.add 9) w fun x65_192 =>
      ldI .u32 (y10.add 10) w fun x65_193 =>
      ldI .u32 (y10.add 11) w fun x65_194 =>
      ldI .u32 (y10.add 12) w fun x65_195 =>
      ldI .u32 (y10.add 13) w fun x65_196 =>
      ldI .u32 (y10.add 14) w fun x65_197 =>
      ldI .u32 (y10.add 15) w fun x65_198 =>
      ref26_round.f x65_183 x65_184 x65_185 x65_186 x65_187 x65_188 x65_189 x65_190 x65_191 x65_192 x65_193 x65_194 x65_195 x65_196 x65_197 x65_198 3 4 9 14 w fun r66_199_0 r66_199_1 r66_199_2 r66_199_3 r66_199_4 r66_199_5 r66_199_6 r66_199_7 r66_199_8 r66_199_9 r66_199_10 r66_199_11 r66_199_12 r66_199_13 r66_199_14 r66_199_15 w =>
      stCs y10 [(Value.int .u32 r66_199_0), (Value.int .u32 r66_199_1), (Value.int .u32 r66_199_2), (Value.int .u32 r66_199_3), (Value.int .u32 r66_199_4), (Value.int .u32 r66_199_5), (Value.int .u32 r66_199_6), (Value.int .u32 r66_199_7), (Value.int .u32 r66_199_8), (Value.int .u32 r66_199_9), (Value.int .u32 r66_199_10), (Value.int .u32 r66_199_11), (Value.int .u32 r66_199_12), (Value.int .u32 r66_199_13), (Value.int .u32 r66_199_14), (Value.int .u32 r66_199_15)] 0 w fun w =>
      let v11_200 := (IntKind.wrap .i64 (y11 + 1))
      ref26_Block.l13 N y6 y7 y10 v11_200 w K4
    else
      K4 y6 y7 y10 w

def ref26_Block.l25 : Nat → Addr → Addr → Addr → Addr → Int → World → (Addr → Addr → World → Prop) → Prop
  | 0, _, _, _, _, _, _, _ => False
  | N + 1, y6, y7, y10, y12, y13, w, K6 =>
    bif (decide (y13 < 64)) then
      if 0 ≤ ((IntKind.wrap .i64 (Int.tdiv y13 4)) : Int) ∧ ((IntKind.wrap .i64 (Int.tdiv y13 4)) : Int) < ((16 : Nat) : Int) then
      ldI .u32 (y10.add (Int.toNat (IntKind.wrap .i64 (Int.tdiv y13 4)))) w.drew fun x74_213 =>
      if 0 ≤ ((IntKind.wrap .i64 (Int.tdiv y13 4)) : Int) ∧ ((IntKind.wrap .i64 (Int.tdiv y13 4)) : Int) < ((16 : Nat) : Int) then
      ldI .u32 (y7.add (Int.toNat (IntKind.wrap .i64 (Int.tdiv y13 4)))) w.drew fun x78_214 =>
      let v14_215 := (IntKind.wrap .u32 (x74_213 + x78_214))
      if (IntKind.wrap .u64 (IntKind.wrap .i64 (8 * (Int.tmod y13 4)))) < 0 then False else
      if 0 ≤ (y13 : Int) ∧ (y13 : Int) < ((64 : Nat) : Int) then
      stC (y12.add (Int.toNat y13)) (Value.int .u8 (IntKind.wrap .u8 (shr .u32 v14_215 (min (Int.toNat (IntKind.wrap .u64 (IntKind.wrap .i64 (8 * (Int.tmod y13 4))))) (IntKind.bits .u32))))) w.drew fun w =>
      let v13_216 := (IntKind.wrap .i64 (y13 + 1))
      ref26_Block.l25 N y6 y7 y10 y12 v13_216 w K6
      else False
      else False
      else False
    else
      K6 y6 y12 w

def ref26_Block.f (a0 : Array Value) (a1 : Int) (a2_0 : Int) (a2_1 : Int) (a2_2 : Int) (a2_3 : Int) (a2_4 : Int) (a2_5 : Int) (a2_6 : Int) (a2_7 : Int) (a2_8 : Int) (a2_9 : Int) (a2_10 : Int) (a2_11 : Int) (w : World) (K : Array Value → World → Prop) : Prop :=
  newC 40 (a0).toList w fun a3_2 w =>
  newC 41 [(Value.int .u8 a2_0), (Value.int .u8 a2_1), (Value.int .u8 a2_2), (Value.int .u8 a2_3), (Value.int .u8 a2_4), (Value.int .u8 a2_5), (Value.int .u8 a2_6), (Value.int .u8 a2_7), (Value.int .u8 a2_8), (Value.int .u8 a2_9), (Value.int .u8 a2_10), (Value.int .u8 a2_11)] w fun a5_3 w =>
  newC 45 (List.replicate 64 (Value.int .u8 0)) w fun a6_4 w =>
  newC 69 (List.replicate 16 (Value.int .u32 0)) w fun a7_6 w =>
  stCs a7_6 [(Value.int .u32 1634760805), (Value.int .u32 857760878), (Value.int .u32 2036477234), (Value.int .u32 1797285236), (Value.int .u32 0), (Value.int .u32 0), (Value.int .u32 0), (Value.int .u32 0), (Value.int .u32 0), (Value.int .u32 0), (Value.int .u32 0), (Value.int .u32 0), (Value.int .u32 0), (Value.int .u32 0), (Value.int .u32 0), (Value.int .u32 0)] 0 w fun w =>
  ∃ N_16 : Nat, ref26_Block.l3 N_16 a1 a3_2 a5_3 a6_4 a7_6 0 w
  (fun o1_17 o5_18 o6_19 o7_20 w =>
    stC (o7_20.add 12) (Value.int .u32 o1_17) w fun w =>
    ∃ N_31 : Nat, ref26_Block.l8 N_31 o5_18 o6_19 o7_20 0 w
    (fun o6_32 o7_33 w =>
      ldI .u32 (o7_33.add 0) w fun x46_35 =>
      ldI .u32 (o7_33.add 1) w fun x46_36 =>
      ldI .u32 (o7_33.add 2) w fun x46_37 =>
      ldI .u32 (o7_33.add 3) w fun x46_38 =>
      ldI .u32 (o7_33.add 4) w fun x46_39 =>
      ldI .u32 (o7_33.add 5) w fun x46_40 =>
      ldI .u32 (o7_33.add 6) w fun x46_41 =>
      ldI .u32 (o7_33.add 7) w fun x46_42 =>
      ldI .u32 (o7_33.add 8) w fun x46_43 =>
      ldI .u32 (o7_33.add 9) w fun x46_44 =>
      ldI .u32 (o7_33.add 10) w fun x46_45 =>
      ldI .u32 (o7_33.add 11) w fun x46_46 =>
      ldI .u32 (o7_33.add 12) w fun x46_47 =>
      ldI .u32 (o7_33.add 13) w fun x46_48 =>
      ldI .u32 (o7_33.add 14) w fun x46_49 =>
      ldI .u32 (o7_33.add 15) w fun x46_50 =>
      newC 69 (List.replicate 16 (Value.int .u32 0)) w fun a10_51 w =>
      stCs a10_51 [(Value.int .u32 x46_35), (Value.int .u32 x46_36), (Value.int .u32 x46_37), (Value.int .u32 x46_38), (Value.int .u32 x46_39), (Value.int .u32 x46_40), (Value.int .u32 x46_41), (Value.int .u32 x46_42), (Value.int .u32 x46_43), (Value.int .u32 x46_44), (Value.int .u32 x46_45), (Value.int .u32 x46_46), (Value.int .u32 x46_47), (Value.int .u32 x46_48), (Value.int .u32 x46_49), (Value.int .u32 x46_50)] 0 w fun w =>
      ∃ N_201 : Nat, ref26_Block.l13 N_201 o6_32 o7_33 a10_51 0 w
      (fun o6_202 o7_203 o10_204 w =>
        newC 45 (List.replicate 64 (Value.int .u8 0)) w fun a12_206 w =>
        ∃ N_217 : Nat, ref26_Block.l25 N_217 o6_202 o7_203 o10_204 a12_206 0 w
        (fun o6_218 o12_219 w =>
          ldA o12_219 64 w fun x89_221 =>
          if (x89_221.toArray).size = 64 then
          stCs o6_218 x89_221 0 w fun w =>
          ldA o6_218 64 w fun q_222 =>
          K q_222.toArray w
          else False))))
def ref26_Block.H (F : type_of% @ref26_Block.f) : Hf := fun args w K => match args with
  | [v0, v1, v2] => vA v0 fun a0 => vI .u32 v1 fun a1 => vT v2 fun l => cI .u8 l fun a2_0 l => cI .u8 l fun a2_1 l => cI .u8 l fun a2_2 l => cI .u8 l fun a2_3 l => cI .u8 l fun a2_4 l => cI .u8 l fun a2_5 l => cI .u8 l fun a2_6 l => cI .u8 l fun a2_7 l => cI .u8 l fun a2_8 l => cI .u8 l fun a2_9 l => cI .u8 l fun a2_10 l => cI .u8 l fun a2_11 l => cE l <| F a0 a1 a2_0 a2_1 a2_2 a2_3 a2_4 a2_5 a2_6 a2_7 a2_8 a2_9 a2_10 a2_11 w (fun r0 w => K (Value.agg r0) w)
  | _ => False
def ref26_Block.h : Hf := ref26_Block.H @ref26_Block.f
def ref26_Block.CG (F52 : type_of% @ref26_little.f) (F53 : type_of% @ref26_round.f) : Hd := hcons 53 (ref26_round.H F53) (hcons 52 (ref26_little.H F52) (hnil))
def ref26_Block.C : Hd := ref26_Block.CG @ref26_little.f @ref26_round.f
def ref26_Block.G (F52 : type_of% @ref26_little.f) (F53 : type_of% @ref26_round.f) (a0 : Array Value) (a1 : Int) (a2_0 : Int) (a2_1 : Int) (a2_2 : Int) (a2_3 : Int) (a2_4 : Int) (a2_5 : Int) (a2_6 : Int) (a2_7 : Int) (a2_8 : Int) (a2_9 : Int) (a2_10 : Int) (a2_11 : Int) (w : World) (K : Array Value → World → Prop) : Prop :=
  newC 40 (a0).toList w fun a3_2 w =>
  newC 41 [(Value.int .u8 a2_0), (Value.int .u8 a2_1), (Value.int .u8 a2_2), (Value.int .u8 a2_3), (Value.int .u8 a2_4), (Value.int .u8 a2_5), (Value.int .u8 a2_6), (Value.int .u8 a2_7), (Value.int .u8 a2_8), (Value.int .u8 a2_9), (Value.int .u8 a2_10), (Value.int .u8 a2_11)] w fun a5_3 w =>
  newC 45 (List.replicate 64 (Value.int .u8 0)) w fun a6_4 w =>
  newC 69 (List.replicate 16 (Value.int .u32 0)) w fun a7_6 w =>
  stCs a7_6 [(Value.int .u32 1634760805), (Value.int .u32 857760878), (Value.int .u32 2036477234), (Value.int .u32 1797285236), (Value.int .u32 0), (Value.int .u32 0), (Value.int .u32 0), (Value.int .u32 0), (Value.int .u32 0), (Value.int .u32 0), (Value.int .u32 0), (Value.int .u32 0), (Value.int .u32 0), (Value.int .u32 0), (Value.int .u32 0), (Value.int .u32 0)] 0 w fun w =>
  ∃ N_16 : Nat, ref26_Block.l3 N_16 a1 a3_2 a5_3 a6_4 a7_6 0 w
  (fun o1_17 o5_18 o6_19 o7_20 w =>
    stC (o7_20.add 12) (Value.int .u32 o1_17) w fun w =>
    ∃ N_31 : Nat, ref26_Block.l8 N_31 o5_18 o6_19 o7_20 0 w
    (fun o6_32 o7_33 w =>
      ldI .u32 (o7_33.add 0) w fun x46_35 =>
      ldI .u32 (o7_33.add 1) w fun x46_36 =>
      ldI .u32 (o7_33.add 2) w fun x46_37 =>
      ldI .u32 (o7_33.add 3) w fun x46_38 =>
      ldI .u32 (o7_33.add 4) w fun x46_39 =>
      ldI .u32 (o7_33.add 5) w fun x46_40 =>
      ldI .u32 (o7_33.add 6) w fun x46_41 =>
      ldI .u32 (o7_33.add 7) w fun x46_42 =>
      ldI .u32 (o7_33.add 8) w fun x46_43 =>
      ldI .u32 (o7_33.add 9) w fun x46_44 =>
      ldI .u32 (o7_33.add 10) w fun x46_45 =>
      ldI .u32 (o7_33.add 11) w fun x46_46 =>
      ldI .u32 (o7_33.add 12) w fun x46_47 =>
      ldI .u32 (o7_33.add 13) w fun x46_48 =>
      ldI .u32 (o7_33.add 14) w fun x46_49 =>
      ldI .u32 (o7_33.add 15) w fun x46_50 =>
      newC 69 (List.replicate 16 (Value.int .u32 0)) w fun a10_51 w =>
      stCs a10_51 [(Value.int .u32 x46_35), (Value.int .u32 x46_36), (Value.int .u32 x46_37), (Value.int .u32 x46_38), (Value.int .u32 x46_39), (Value.int .u32 x46_40), (Value.int .u32 x46_41), (Value.int .u32 x46_42), (Value.int .u32 x46_43), (Value.int .u32 x46_44), (Value.int .u32 x46_45), (Value.int .u32 x46_46), (Value.int .u32 x46_47), (Value.int .u32 x46_48), (Value.int .u32 x46_49), (Value.int .u32 x46_50)] 0 w fun w =>
      ∃ N_201 : Nat, ref26_Block.l13 N_201 o6_32 o7_33 a10_51 0 w
      (fun o6_202 o7_203 o10_204 w =>
        newC 45 (List.replicate 64 (Value.int .u8 0)) w fun a12_206 w =>
        ∃ N_217 : Nat, ref26_Block.l25 N_217 o6_202 o7_203 o10_204 a12_206 0 w
        (fun o6_218 o12_219 w =>
          ldA o12_219 64 w fun x89_221 =>
          if (x89_221.toArray).size = 64 then
          stCs o6_218 x89_221 0 w fun w =>
          ldA o6_218 64 w fun q_222 =>
          K q_222.toArray w
          else False))))
theorem ref26_Block.C_ok : CSound Try.prog ref26_Block.C := hcons_ok ref26_round.ok (hcons_ok ref26_little.ok (hnil_ok))
def ref26_Block.D : Nat → Plan := fun i => (match Nat.beq i 27 with | true => .take 0 (.take 1 (.take 2 (.take 3 (.take 4 (.take 5 (.take 6 (.take 7 (.take 8 (.take 9 (.done)))))))))) | false => .done)
noncomputable def ref26_Block.c : Code := Try.f30.body.getD .skip
theorem ref26_Block.hb : Try.f30.body = some ref26_Block.c := by kernel_rfl
noncomputable def ref26_Block.b0 : Code := (loopsOf ref26_Block.c).getD 0 .skip
theorem ref26_Block.b0_loops : loopsOf ref26_Block.b0 = [] := by kernel_rfl
noncomputable def ref26_Block.b1 : Code := (loopsOf ref26_Block.c).getD 1 .skip
theorem ref26_Block.b1_loops : loopsOf ref26_Block.b1 = [] := by kernel_rfl
noncomputable def ref26_Block.b2 : Code := (loopsOf ref26_Block.c).getD 2 .skip
theorem ref26_Block.b2_loops : loopsOf ref26_Block.b2 = [] := by kernel_rfl
noncomputable def ref26_Block.b3 : Code := (loopsOf ref26_Block.c).getD 3 .skip
theorem ref26_Block.b3_loops : loopsOf ref26_Block.b3 = [] := by kernel_rfl
theorem ref26_Block.c_loops : loopsOf ref26_Block.c = [ref26_Block.b0, ref26_Block.b1, ref26_Block.b2, ref26_Block.b3] := by kernel_rfl
def ref26_Block.l3G (F52 : type_of% @ref26_little.f) (F53 : type_of% @ref26_round.f) (R : Int → Addr → Addr → Addr → Addr → Int → World → (Int → Addr → Addr → Addr → World → Prop) → Prop) : Int → Addr → Addr → Addr → Addr → Int → World → (Int → Addr → Addr → Addr → World → Prop) → Prop := fun y1 y3 y5 y6 y7 y8 w K0 =>
    bif (decide (y8 < 8)) then
      bnd 32 32 (some (Value.int .i64 (IntKind.wrap .i64 (4 * y8)))) (some (Value.int .i64 (IntKind.wrap .i64 ((IntKind.wrap .i64 (4 * y8)) + 4)))) fun l_12 h_13 =>
      F52 (adrS (some y3) l_12 32 1) (h_13 - l_12) (32 - l_12) w fun r28_14 w =>
      if 0 ≤ ((IntKind.wrap .i64 (4 + y8)) : Int) ∧ ((IntKind.wrap .i64 (4 + y8)) : Int) < ((16 : Nat) : Int) then
      stC (y7.add (Int.toNat (IntKind.wrap .i64 (4 + y8)))) (Value.int .u32 r28_14) w fun w =>
      let v8_15 := (IntKind.wrap .i64 (y8 + 1))
      R y1 y3 y5 y6 y7 v8_15 w K0
      else False
    else
      K0 y1 y5 y6 y7 w

def ref26_Block.l8G (F52 : type_of% @ref26_little.f) (F53 : type_of% @ref26_round.f) (R : Addr → Addr → Addr → Int → World → (Addr → Addr → World → Prop) → Prop) : Addr → Addr → Addr → Int → World → (Addr → Addr → World → Prop) → Prop := fun y5 y6 y7 y9 w K2 =>
    bif (decide (y9 < 3)) then
      bnd 12 12 (some (Value.int .i64 (IntKind.wrap .i64 (4 * y9)))) (some (Value.int .i64 (IntKind.wrap .i64 ((IntKind.wrap .i64 (4 * y9)) + 4)))) fun l_27 h_28 =>
      F52 (adrS (some y5) l_27 12 1) (h_28 - l_27) (12 - l_27) w fun r44_29 w =>
      if 0 ≤ ((IntKind.wrap .i64 (13 + y9)) : Int) ∧ ((IntKind.wrap .i64 (13 + y9)) : Int) < ((16 : Nat) : Int) then
      stC (y7.add (Int.toNat (IntKind.wrap .i64 (13 + y9)))) (Value.int .u32 r44_29) w fun w =>
      let v9_30 := (IntKind.wrap .i64 (y9 + 1))
      R y5 y6 y7 v9_30 w K2
      else False
    else
      K2 y6 y7 w

def ref26_Block.l13G (F52 : type_of% @ref26_little.f) (F53 : type_of% @ref26_round.f) (R : Addr → Addr → Addr → Int → World → (Addr → Addr → Addr → World → Prop) → Prop) : Addr → Addr → Addr → Int → World → (Addr → Addr → Addr → World → Prop) → Prop := fun y6 y7 y10 y11 w K4 =>
    bif (decide (y11 < 10)) then
      ldI .u32 (y10.add 0) w fun x51_58 =>
      ldI .u32 (y10.add 1) w fun x51_59 =>
      ldI .u32 (y10.add 2) w fun x51_60 =>
      ldI .u32 (y10.add 3) w fun x51_61 =>
      ldI .u32 (y10.add 4) w fun x51_62 =>
      ldI .u32 (y10.add 5) w fun x51_63 =>
      ldI .u32 (y10.add 6) w fun x51_64 =>
      ldI .u32 (y10.add 7) w fun x51_65 =>
      ldI .u32 (y10.add 8) w fun x51_66 =>
      ldI .u32 (y10.add 9) w fun x51_67 =>
      ldI .u32 (y10.add 10) w fun x51_68 =>
      ldI .u32 (y10.add 11) w fun x51_69 =>
      ldI .u32 (y10.add 12) w fun x51_70 =>
      ldI .u32 (y10.add 13) w fun x51_71 =>
      ldI .u32 (y10.add 14) w fun x51_72 =>
      ldI .u32 (y10.add 15) w fun x51_73 =>
      F53 x51_58 x51_59 x51_60 x51_61 x51_62 x51_63 x51_64 x51_65 x51_66 x51_67 x51_68 x51_69 x51_70 x51_71 x51_72 x51_73 0 4 8 12 w fun r52_74_0 r52_74_1 r52_74_2 r52_74_3 r52_74_4 r52_74_5 r52_74_6 r52_74_7 r52_74_8 r52_74_9 r52_74_10 r52_74_11 r52_74_12 r52_74_13 r52_74_14 r52_74_15 w =>
      stCs y10 [(Value.int .u32 r52_74_0), (Value.int .u32 r52_74_1), (Value.int .u32 r52_74_2), (Value.int .u32 r52_74_3), (Value.int .u32 r52_74_4), (Value.int .u32 r52_74_5), (Value.int .u32 r52_74_6), (Value.int .u32 r52_74_7), (Value.int .u32 r52_74_8), (Value.int .u32 r52_74_9), (Value.int .u32 r52_74_10), (Value.int .u32 r52_74_11), (Value.int .u32 r52_74_12), (Value.int .u32 r52_74_13), (Value.int .u32 r52_74_14), (Value.int .u32 r52_74_15)] 0 w fun w =>
      ldI .u32 (y10.add 0) w fun x53_76 =>
      ldI .u32 (y10.add 1) w fun x53_77 =>
      ldI .u32 (y10.add 2) w fun x53_78 =>
      ldI .u32 (y10.add 3) w fun x53_79 =>
      ldI .u32 (y10.add 4) w fun x53_80 =>
      ldI .u32 (y10.add 5) w fun x53_81 =>
      ldI .u32 (y10.add 6) w fun x53_82 =>
      ldI .u32 (y10.add 7) w fun x53_83 =>
      ldI .u32 (y10.add 8) w fun x53_84 =>
      ldI .u32 (y10.add 9) w fun x53_85 =>
      ldI .u32 (y10.add 10) w fun x53_86 =>
      ldI .u32 (y10.add 11) w fun x53_87 =>
      ldI .u32 (y10.add 12) w fun x53_88 =>
      ldI .u32 (y10.add 13) w fun x53_89 =>
      ldI .u32 (y10.add 14) w fun x53_90 =>
      ldI .u32 (y10.add 15) w fun x53_91 =>
      F53 x53_76 x53_77 x53_78 x53_79 x53_80 x53_81 x53_82 x53_83 x53_84 x53_85 x53_86 x53_87 x53_88 x53_89 x53_90 x53_91 1 5 9 13 w fun r54_92_0 r54_92_1 r54_92_2 r54_92_3 r54_92_4 r54_92_5 r54_92_6 r54_92_7 r54_92_8 r54_92_9 r54_92_10 r54_92_11 r54_92_12 r54_92_13 r54_92_14 r54_92_15 w =>
      stCs y10 [(Value.int .u32 r54_92_0), (Value.int .u32 r54_92_1), (Value.int .u32 r54_92_2), (Value.int .u32 r54_92_3), (Value.int .u32 r54_92_4), (Value.int .u32 r54_92_5), (Value.int .u32 r54_92_6), (Value.int .u32 r54_92_7), (Value.int .u32 r54_92_8), (Value.int .u32 r54_92_9), (Value.int .u32 r54_92_10), (Value.int .u32 r54_92_11), (Value.int .u32 r54_92_12), (Value.int .u32 r54_92_13), (Value.int .u32 r54_92_14), (Value.int .u32 r54_92_15)] 0 w fun w =>
      ldI .u32 (y10.add 0) w fun x55_94 =>
      ldI .u32 (y10.add 1) w fun x55_95 =>
      ldI .u32 (y10.add 2) w fun x55_96 =>
      ldI .u32 (y10.add 3) w fun x55_97 =>
      ldI .u32 (y10.add 4) w fun x55_98 =>
      ldI .u32 (y10.add 5) w fun x55_99 =>
      ldI .u32 (y10.add 6) w fun x55_100 =>
      ldI .u32 (y10.add 7) w fun x55_101 =>
      ldI .u32 (y10.add 8) w fun x55_102 =>
      ldI .u32 (y10.add 9) w fun x55_103 =>
      ldI .u32 (y10.add 10) w fun x55_104 =>
      ldI .u32 (y10.add 11) w fun x55_105 =>
      ldI .u32 (y10.add 12) w fun x55_106 =>
      ldI .u32 (y10.add 13) w fun x55_107 =>
      ldI .u32 (y10.add 14) w fun x55_108 =>
      ldI .u32 (y10.add 15) w fun x55_109 =>
      F53 x55_94 x55_95 x55_96 x55_97 x55_98 x55_99 x55_100 x55_101 x55_102 x55_103 x55_104 x55_105 x55_106 x55_107 x55_108 x55_109 2 6 10 14 w fun r56_110_0 r56_110_1 r56_110_2 r56_110_3 r56_110_4 r56_110_5 r56_110_6 r56_110_7 r56_110_8 r56_110_9 r56_110_10 r56_110_11 r56_110_12 r56_110_13 r56_110_14 r56_110_15 w =>
      stCs y10 [(Value.int .u32 r56_110_0), (Value.int .u32 r56_110_1), (Value.int .u32 r56_110_2), (Value.int .u32 r56_110_3), (Value.int .u32 r56_110_4), (Value.int .u32 r56_110_5), (Value.int .u32 r56_110_6), (Value.int .u32 r56_110_7), (Value.int .u32 r56_110_8), (Value.int .u32 r56_110_9), (Value.int .u32 r56_110_10), (Value.int .u32 r56_110_11), (Value.int .u32 r56_110_12), (Value.int .u32 r56_110_13), (Value.int .u32 r56_110_14), (Value.int .u32 r56_110_15)] 0 w fun w =>
      ldI .u32 (y10.add 0) w fun x57_112 =>
      ldI .u32 (y10.add 1) w fun x57_113 =>
      ldI .u32 (y10.add 2) w fun x57_114 =>
      ldI .u32 (y10.add 3) w fun x57_115 =>
      ldI .u32 (y10.add 4) w fun x57_116 =>
      ldI .u32 (y10.add 5) w fun x57_117 =>
      ldI .u32 (y10.add 6) w fun x57_118 =>
      ldI .u32 (y10.add 7) w fun x57_119 =>
      ldI .u32 (y10.add 8) w fun x57_120 =>
      ldI .u32 (y10.add 9) w fun x57_121 =>
      ldI .u32 (y10.add 10) w fun x57_122 =>
      ldI .u32 (y10.add 11) w fun x57_123 =>
      ldI .u32 (y10.add 12) w fun x57_124 =>
      ldI .u32 (y10.add 13) w fun x57_125 =>
      ldI .u32 (y10.add 14) w fun x57_126 =>
      ldI .u32 (y10.add 15) w fun x57_127 =>
      F53 x57_112 x57_113 x57_114 x57_115 x57_116 x57_117 x57_118 x57_119 x57_120 x57_121 x57_122 x57_123 x57_124 x57_125 x57_126 x57_127 3 7 11 15 w fun r58_128_0 r58_128_1 r58_128_2 r58_128_3 r58_128_4 r58_128_5 r58_128_6 r58_128_7 r58_128_8 r58_128_9 r58_128_10 r58_128_11 r58_128_12 r58_128_13 r58_128_14 r58_128_15 w =>
      stCs y10 [(Value.int .u32 r58_128_0), (Value.int .u32 r58_128_1), (Value.int .u32 r58_128_2), (Value.int .u32 r58_128_3), (Value.int .u32 r58_128_4), (Value.int .u32 r58_128_5), (Value.int .u32 r58_128_6), (Value.int .u32 r58_128_7), (Value.int .u32 r58_128_8), (Value.int .u32 r58_128_9), (Value.int .u32 r58_128_10), (Value.int .u32 r58_128_11), (Value.int .u32 r58_128_12), (Value.int .u32 r58_128_13), (Value.int .u32 r58_128_14), (Value.int .u32 r58_128_15)] 0 w fun w =>
      ldI .u32 (y10.add 0) w fun x59_130 =>
      ldI .u32 (y10.add 1) w fun x59_131 =>
      ldI .u32 (y10.add 2) w fun x59_132 =>
      ldI .u32 (y10.add 3) w fun x59_133 =>
      ldI .u32 (y10.add 4) w fun x59_134 =>
      ldI .u32 (y10.add 5) w fun x59_135 =>
      ldI .u32 (y10.add 6) w fun x59_136 =>
      ldI .u32 (y10.add 7) w fun x59_137 =>
      ldI .u32 (y10.add 8) w fun x59_138 =>
      ldI .u32 (y10.add 9) w fun x59_139 =>
      ldI .u32 (y10.add 10) w fun x59_140 =>
      ldI .u32 (y10.add 11) w fun x59_141 =>
      ldI .u32 (y10.add 12) w fun x59_142 =>
      ldI .u32 (y10.add 13) w fun x59_143 =>
      ldI .u32 (y10.add 14) w fun x59_144 =>
      ldI .u32 (y10.add 15) w fun x59_145 =>
      F53 x59_130 x59_131 x59_132 x59_133 x59_134 x59_135 x59_136 x59_137 x59_138 x59_139 x59_140 x59_141 x59_142 x59_143 x59_144 x59_145 0 5 10 15 w fun r60_146_0 r60_146_1 r60_146_2 r60_146_3 r60_146_4 r60_146_5 r60_146_6 r60_146_7 r60_146_8 r60_146_9 r60_146_10 r60_146_11 r60_146_12 r60_146_13 r60_146_14 r60_146_15 w =>
      stCs y10 [(Value.int .u32 r60_146_0), (Value.int .u32 r60_146_1), (Value.int .u32 r60_146_2), (Value.int .u32 r60_146_3), (Value.int .u32 r60_146_4), (Value.int .u32 r60_146_5), (Value.int .u32 r60_146_6), (Value.int .u32 r60_146_7), (Value.int .u32 r60_146_8), (Value.int .u32 r60_146_9), (Value.int .u32 r60_146_10), (Value.int .u32 r60_146_11), (Value.int .u32 r60_146_12), (Value.int .u32 r60_146_13), (Value.int .u32 r60_146_14), (Value.int .u32 r60_146_15)] 0 w fun w =>
      ldI .u32 (y10.add 0) w fun x61_148 =>
      ldI .u32 (y10.add 1) w fun x61_149 =>
      ldI .u32 (y10.add 2) w fun x61_150 =>
      ldI .u32 (y10.add 3) w fun x61_151 =>
      ldI .u32 (y10.add 4) w fun x61_152 =>
      ldI .u32 (y10.add 5) w fun x61_153 =>
      ldI .u32 (y10.add 6) w fun x61_154 =>
      ldI .u32 (y10.add 7) w fun x61_155 =>
      ldI .u32 (y10.add 8) w fun x61_156 =>
      ldI .u32 (y10.add 9) w fun x61_157 =>
      ldI .u32 (y10.add 10) w fun x61_158 =>
      ldI .u32 (y10.add 11) w fun x61_159 =>
      ldI .u32 (y10.add 12) w fun x61_160 =>
      ldI .u32 (y10.add 13) w fun x61_161 =>
      ldI .u32 (y10.add 14) w fun x61_162 =>
      ldI .u32 (y10.add 15) w fun x61_163 =>
      F53 x61_148 x61_149 x61_150 x61_151 x61_152 x61_153 x61_154 x61_155 x61_156 x61_157 x61_158 x61_159 x61_160 x61_161 x61_162 x61_163 1 6 11 12 w fun r62_164_0 r62_164_1 r62_164_2 r62_164_3 r62_164_4 r62_164_5 r62_164_6 r62_164_7 r62_164_8 r62_164_9 r62_164_10 r62_164_11 r62_164_12 r62_164_13 r62_164_14 r62_164_15 w =>
      stCs y10 [(Value.int .u32 r62_164_0), (Value.int .u32 r62_164_1), (Value.int .u32 r62_164_2), (Value.int .u32 r62_164_3), (Value.int .u32 r62_164_4), (Value.int .u32 r62_164_5), (Value.int .u32 r62_164_6), (Value.int .u32 r62_164_7), (Value.int .u32 r62_164_8), (Value.int .u32 r62_164_9), (Value.int .u32 r62_164_10), (Value.int .u32 r62_164_11), (Value.int .u32 r62_164_12), (Value.int .u32 r62_164_13), (Value.int .u32 r62_164_14), (Value.int .u32 r62_164_15)] 0 w fun w =>
      ldI .u32 (y10.add 0) w fun x63_166 =>
      ldI .u32 (y10.add 1) w fun x63_167 =>
      ldI .u32 (y10.add 2) w fun x63_168 =>
      ldI .u32 (y10.add 3) w fun x63_169 =>
      ldI .u32 (y10.add 4) w fun x63_170 =>
      ldI .u32 (y10.add 5) w fun x63_171 =>
      ldI .u32 (y10.add 6) w fun x63_172 =>
      ldI .u32 (y10.add 7) w fun x63_173 =>
      ldI .u32 (y10.add 8) w fun x63_174 =>
      ldI .u32 (y10.add 9) w fun x63_175 =>
      ldI .u32 (y10.add 10) w fun x63_176 =>
      ldI .u32 (y10.add 11) w fun x63_177 =>
      ldI .u32 (y10.add 12) w fun x63_178 =>
      ldI .u32 (y10.add 13) w fun x63_179 =>
      ldI .u32 (y10.add 14) w fun x63_180 =>
      ldI .u32 (y10.add 15) w fun x63_181 =>
      F53 x63_166 x63_167 x63_168 x63_169 x63_170 x63_171 x63_172 x63_173 x63_174 x63_175 x63_176 x63_177 x63_178 x63_179 x63_180 x63_181 2 7 8 13 w fun r64_182_0 r64_182_1 r64_182_2 r64_182_3 r64_182_4 r64_182_5 r64_182_6 r64_182_7 r64_182_8 r64_182_9 r64_182_10 r64_182_11 r64_182_12 r64_182_13 r64_182_14 r64_182_15 w =>
      stCs y10 [(Value.int .u32 r64_182_0), (Value.int .u32 r64_182_1), (Value.int .u32 r64_182_2), (Value.int .u32 r64_182_3), (Value.int .u32 r64_182_4), (Value.int .u32 r64_182_5), (Value.int .u32 r64_182_6), (Value.int .u32 r64_182_7), (Value.int .u32 r64_182_8), (Value.int .u32 r64_182_9), (Value.int .u32 r64_182_10), (Value.int .u32 r64_182_11), (Value.int .u32 r64_182_12), (Value.int .u32 r64_182_13), (Value.int .u32 r64_182_14), (Value.int .u32 r64_182_15)] 0 w fun w =>
      ldI .u32 (y10.add 0) w fun x65_183 =>
      ldI .u32 (y10.add 1) w fun x65_184 =>
      ldI .u32 (y10.add 2) w fun x65_185 =>
      ldI .u32 (y10.add 3) w fun x65_186 =>
      ldI .u32 (y10.add 4) w fun x65_187 =>
      ldI .u32 (y10.add 5) w fun x65_188 =>
      ldI .u32 (y10.add 6) w fun x65_189 =>
      ldI .u32 (y10.add 7) w fun x65_190 =>
      ldI .u32 (y10.add 8) w fun x65_191 =>
      ldI .u32 (y10.add 9) w fun x65_192 =>
      ldI .u32 (y10.add 10) w fun x65_193 =>
      ldI .u32 (y10.add 11) w fun x65_194 =>
      ldI .u32 (y10.add 12) w fun x65_195 =>
      ldI .u32 (y10.add 13) w fun x65_196 =>
      ldI .u32 (y10.add 14) w fun x65_197 =>
      ldI .u32 (y10.add 15) w fun x65_198 =>
      F53 x65_183 x65_184 x65_185 x65_186 x65_187 x65_188 x65_189 x65_190 x65_191 x65_192 x65_193 x65_194 x65_195 x65_196 x65_197 x65_198 3 4 9 14 w fun r66_199_0 r66_199_1 r66_199_2 r66_199_3 r66_199_4 r66_199_5 r66_199_6 r66_199_7 r66_199_8 r66_199_9 r66_199_10 r66_199_11 r66_199_12 r66_199_13 r66_199_14 r66_199_15 w =>
      stCs y10 [(Value.int .u32 r66_199_0), (Value.int .u32 r66_199_1), (Value.int .u32 r66_199_2), (Value.int .u32 r66_199_3), (Value.int .u32 r66_199_4), (Value.int .u32 r66_199_5), (Value.int .u32 r66_199_6), (Value.int .u32 r66_199_7), (Value.int .u32 r66_199_8), (Value.int .u32 r66_199_9), (Value.int .u32 r66_199_10), (Value.int .u32 r66_199_11), (Value.int .u32 r66_199_12), (Value.int .u32 r66_199_13), (Value.int .u32 r66_199_14), (Value.int .u32 r66_199_15)] 0 w fun w =>
      let v11_200 := (IntKind.wrap .i64 (y11 + 1))
      R y6 y7 y10 v11_200 w K4
    else
      K4 y6 y7 y10 w

def ref26_Block.l25G (F52 : type_of% @ref26_little.f) (F53 : type_of% @ref26_round.f) (R : Addr → Addr → Addr → Addr → Int → World → (Addr → Addr → World → Prop) → Prop) : Addr → Addr → Addr → Addr → Int → World → (Addr → Addr → World → Prop) → Prop := fun y6 y7 y10 y12 y13 w K6 =>
    bif (decide (y13 < 64)) then
      if 0 ≤ ((IntKind.wrap .i64 (Int.tdiv y13 4)) : Int) ∧ ((IntKind.wrap .i64 (Int.tdiv y13 4)) : Int) < ((16 : Nat) : Int) then
      ldI .u32 (y10.add (Int.toNat (IntKind.wrap .i64 (Int.tdiv y13 4)))) w.drew fun x74_213 =>
      if 0 ≤ ((IntKind.wrap .i64 (Int.tdiv y13 4)) : Int) ∧ ((IntKind.wrap .i64 (Int.tdiv y13 4)) : Int) < ((16 : Nat) : Int) then
      ldI .u32 (y7.add (Int.toNat (IntKind.wrap .i64 (Int.tdiv y13 4)))) w.drew fun x78_214 =>
      let v14_215 := (IntKind.wrap .u32 (x74_213 + x78_214))
      if (IntKind.wrap .u64 (IntKind.wrap .i64 (8 * (Int.tmod y13 4)))) < 0 then False else
      if 0 ≤ (y13 : Int) ∧ (y13 : Int) < ((64 : Nat) : Int) then
      stC (y12.add (Int.toNat y13)) (Value.int .u8 (IntKind.wrap .u8 (shr .u32 v14_215 (min (Int.toNat (IntKind.wrap .u64 (IntKind.wrap .i64 (8 * (Int.tmod y13 4))))) (IntKind.bits .u32))))) w.drew fun w =>
      let v13_216 := (IntKind.wrap .i64 (y13 + 1))
      R y6 y7 y10 y12 v13_216 w K6
      else False
      else False
      else False
    else
      K6 y6 y12 w

def ref26_Block.hn3 (N : Nat) (f : Fr) (w : World) (K : AExit → Fr → World → Prop) : Prop :=
  gN f 90 <| gI .u32 f 1 fun y1 => gQ f 3 fun y3 => gQ f 5 fun y5 => gQ f 6 fun y6 => gQ f 7 fun y7 => gI .i64 f 8 fun y8 => ref26_Block.l3 N y1 y3 y5 y6 y7 y8 w (fun o1 o5 o6 o7 w => K (.exit 0) [none, some (Value.int .u32 o1), none, none, none, some (Value.pointer (some o5)), some (Value.pointer (some o6)), some (Value.pointer (some o7)), none, none, none, none, none, none, none, none, none, none, none, none, none, none, none, none, none, none, none, none, none, none, none, none, none, none, none, none, none, none, none, none, none, none, none, none, none, none, none, none, none, none, none, none, none, none, none, none, none, none, none, none, none, none, none, none, none, none, none, none, none, none, none, none, none, none, none, none, none, none, none, none, none, none, none, none, none, none, none, none, none, none] w)
def ref26_Block.hx3 : AExit → Fr → World → (AExit → Fr → World → Prop) → Prop := fun e f w K => match e with
  | .normal => False
  | .exit i => (match Nat.beq i 0 with | true => gN f 90 <| gI .u32 f 1 fun o1 => gQ f 5 fun o5 => gQ f 6 fun o6 => gQ f 7 fun o7 => K (.exit 0) [none, some (Value.int .u32 o1), none, none, none, some (Value.pointer (some o5)), some (Value.pointer (some o6)), some (Value.pointer (some o7)), none, none, none, none, none, none, none, none, none, none, none, none, none, none, none, none, none, none, none, none, none, none, none, none, none, none, none, none, none, none, none, none, none, none, none, none, none, none, none, none, none, none, none, none, none, none, none, none, none, none, none, none, none, none, none, none, none, none, none, none, none, none, none, none, none, none, none, none, none, none, none, none, none, none, none, none, none, none, none, none, none, none] w | false => False)
  | .ret => False
def ref26_Block.hn8 (N : Nat) (f : Fr) (w : World) (K : AExit → Fr → World → Prop) : Prop :=
  gN f 90 <| gQ f 5 fun y5 => gQ f 6 fun y6 => gQ f 7 fun y7 => gI .i64 f 9 fun y9 => ref26_Block.l8 N y5 y6 y7 y9 w (fun o6 o7 w => K (.exit 2) [none, none, none, none, none, none, some (Value.pointer (some o6)), some (Value.pointer (some o7)), none, none, none, none, none, none, none, none, none, none, none, none, none, none, none, none, none, none, none, none, none, none, none, none, none, none, none, none, none, none, none, none, none, none, none, none, none, none, none, none, none, none, none, none, none, none, none, none, none, none, none, none, none, none, none, none, none, none, none, none, none, none, none, none, none, none, none, none, none, none, none, none, none, none, none, none, none, none, none, none, none, none] w)
def ref26_Block.hx8 : AExit → Fr → World → (AExit → Fr → World → Prop) → Prop := fun e f w K => match e with
  | .normal => False
  | .exit i => (match Nat.beq i 2 with | true => gN f 90 <| gQ f 6 fun o6 => gQ f 7 fun o7 => K (.exit 2) [none, none, none, none, none, none, some (Value.pointer (some o6)), some (Value.pointer (some o7)), none, none, none, none, none, none, none, none, none, none, none, none, none, none, none, none, none, none, none, none, none, none, none, none, none, none, none, none, none, none, none, none, none, none, none, none, none, none, none, none, none, none, none, none, none, none, none, none, none, none, none, none, none, none, none, none, none, none, none, none, none, none, none, none, none, none, none, none, none, none, none, none, none, none, none, none, none, none, none, none, none, none] w | false => False)
  | .ret => False
def ref26_Block.hn13 (N : Nat) (f : Fr) (w : World) (K : AExit → Fr → World → Prop) : Prop :=
  gN f 90 <| gQ f 6 fun y6 => gQ f 7 fun y7 => gQ f 10 fun y10 => gI .i64 f 11 fun y11 => ref26_Block.l13 N y6 y7 y10 y11 w (fun o6 o7 o10 w => K (.exit 4) [none, none, none, none, none, none, some (Value.pointer (some o6)), some (Value.pointer (some o7)), none, none, some (Value.pointer (some o10)), none, none, none, none, none, none, none, none, none, none, none, none, none, none, none, none, none, none, none, none, none, none, none, none, none, none, none, none, none, none, none, none, none, none, none, none, none, none, none, none, none, none, none, none, none, none, none, none, none, none, none, none, none, none, none, none, none, none, none, none, none, none, none, none, none, none, none, none, none, none, none, none, none, none, none, none, none, none, none] w)
def ref26_Block.hx13 : AExit → Fr → World → (AExit → Fr → World → Prop) → Prop := fun e f w K => match e with
  | .normal => False
  | .exit i => (match Nat.beq i 4 with | true => gN f 90 <| gQ f 6 fun o6 => gQ f 7 fun o7 => gQ f 10 fun o10 => K (.exit 4) [none, none, none, none, none, none, some (Value.pointer (some o6)), some (Value.pointer (some o7)), none, none, some (Value.pointer (some o10)), none, none, none, none, none, none, none, none, none, none, none, none, none, none, none, none, none, none, none, none, none, none, none, none, none, none, none, none, none, none, none, none, none, none, none, none, none, none, none, none, none, none, none, none, none, none, none, none, none, none, none, none, none, none, none, none, none, none, none, none, none, none, none, none, none, none, none, none, none, none, none, none, none, none, none, none, none, none, none] w | false => False)
  | .ret => False
def ref26_Block.hn25 (N : Nat) (f : Fr) (w : World) (K : AExit → Fr → World → Prop) : Prop :=
  gN f 90 <| gQ f 6 fun y6 => gQ f 7 fun y7 => gQ f 10 fun y10 => gQ f 12 fun y12 => gI .i64 f 13 fun y13 => ref26_Block.l25 N y6 y7 y10 y12 y13 w (fun o6 o12 w => K (.exit 6) [none, none, none, none, none, none, some (Value.pointer (some o6)), none, none, none, none, none, some (Value.pointer (some o12)), none, none, none, none, none, none, none, none, none, none, none, none, none, none, none, none, none, none, none, none, none, none, none, none, none, none, none, none, none, none, none, none, none, none, none, none, none, none, none, none, none, none, none, none, none, none, none, none, none, none, none, none, none, none, none, none, none, none, none, none, none, none, none, none, none, none, none, none, none, none, none, none, none, none, none, none, none] w)
def ref26_Block.hx25 : AExit → Fr → World → (AExit → Fr → World → Prop) → Prop := fun e f w K => match e with
  | .normal => False
  | .exit i => (match Nat.beq i 6 with | true => gN f 90 <| gQ f 6 fun o6 => gQ f 12 fun o12 => K (.exit 6) [none, none, none, none, none, none, some (Value.pointer (some o6)), none, none, none, none, none, some (Value.pointer (some o12)), none, none, none, none, none, none, none, none, none, none, none, none, none, none, none, none, none, none, none, none, none, none, none, none, none, none, none, none, none, none, none, none, none, none, none, none, none, none, none, none, none, none, none, none, none, none, none, none, none, none, none, none, none, none, none, none, none, none, none, none, none, none, none, none, none, none, none, none, none, none, none, none, none, none, none, none, none] w | false => False)
  | .ret => False
def ref26_Block.L : LHd := fun l f w K => (match Nat.beq l 25 with | true => ∃ N, ref26_Block.hn25 N f w K | false => (match Nat.beq l 13 with | true => ∃ N, ref26_Block.hn13 N f w K | false => (match Nat.beq l 8 with | true => ∃ N, ref26_Block.hn8 N f w K | false => (match Nat.beq l 3 with | true => ∃ N, ref26_Block.hn3 N f w K | false => False))))
theorem ref26_Block.leG3 (F52 : type_of% @ref26_little.f) (F53 : type_of% @ref26_round.f) (N : Nat) (y1 : Int) (y3 : Addr) (y5 : Addr) (y6 : Addr) (y7 : Addr) (y8 : Int) (w : World) (K : AExit → Fr → World → Prop) : awp (ref26_Block.CG F52 F53) ref26_Block.L ref26_Block.D tab ref26_Block.b0 (lpost ref26_Block.hn3 ref26_Block.hx3 N K) [none, some (Value.int .u32 y1), none, some (Value.pointer (some y3)), none, some (Value.pointer (some y5)), some (Value.pointer (some y6)), some (Value.pointer (some y7)), some (Value.int .i64 y8), none, none, none, none, none, none, none, none, none, none, none, none, none, none, none, none, none, none, none, none, none, none, none, none, none, none, none, none, none, none, none, none, none, none, none, none, none, none, none, none, none, none, none, none, none, none, none, none, none, none, none, none, none, none, none, none, none, none, none, none, none, none, none, none, none, none, none, none, none, none, none, none, none, none, none, none, none, none, none, none, none] w = ref26_Block.l3G F52 F53 (ref26_Block.l3 N) y1 y3 y5 y6 y7 y8 w (fun o1 o5 o6 o7 w => K (.exit 0) [none, some (Value.int .u32 o1), none, none, none, some (Value.pointer (some o5)), some (Value.pointer (some o6)), some (Value.pointer (some o7)), none, none, none, none, none, none, none, none, none, none, none, none, none, none, none, none, none, none, none, none, none, none, none, none, none, none, none, none, none, none, none, none, none, none, none, none, none, none, none, none, none, none, none, none, none, none, none, none, none, none, none, none, none, none, none, none, none, none, none, none, none, none, none, none, none, none, none, none, none, none, none, none, none, none, none, none, none, none, none, none, none, none] w) := by kernel_rfl
theorem ref26_Block.les3 (N : Nat) : ref26_Block.l3 (N + 1) = ref26_Block.l3G @ref26_little.f @ref26_round.f (ref26_Block.l3 N) := by kernel_rfl
theorem ref26_Block.le3 (N : Nat) (y1 : Int) (y3 : Addr) (y5 : Addr) (y6 : Addr) (y7 : Addr) (y8 : Int) (w : World) (K : AExit → Fr → World → Prop) : awp ref26_Block.C ref26_Block.L ref26_Block.D tab ref26_Block.b0 (lpost ref26_Block.hn3 ref26_Block.hx3 N K) [none, some (Value.int .u32 y1), none, some (Value.pointer (some y3)), none, some (Value.pointer (some y5)), some (Value.pointer (some y6)), some (Value.pointer (some y7)), some (Value.int .i64 y8), none, none, none, none, none, none, none, none, none, none, none, none, none, none, none, none, none, none, none, none, none, none, none, none, none, none, none, none, none, none, none, none, none, none, none, none, none, none, none, none, none, none, none, none, none, none, none, none, none, none, none, none, none, none, none, none, none, none, none, none, none, none, none, none, none, none, none, none, none, none, none, none, none, none, none, none, none, none, none, none, none] w = ref26_Block.l3 (N + 1) y1 y3 y5 y6 y7 y8 w (fun o1 o5 o6 o7 w => K (.exit 0) [none, some (Value.int .u32 o1), none, none, none, some (Value.pointer (some o5)), some (Value.pointer (some o6)), some (Value.pointer (some o7)), none, none, none, none, none, none, none, none, none, none, none, none, none, none, none, none, none, none, none, none, none, none, none, none, none, none, none, none, none, none, none, none, none, none, none, none, none, none, none, none, none, none, none, none, none, none, none, none, none, none, none, none, none, none, none, none, none, none, none, none, none, none, none, none, none, none, none, none, none, none, none, none, none, none, none, none, none, none, none, none, none, none] w) := by
  rw [ref26_Block.les3]
  exact ref26_Block.leG3 @ref26_little.f @ref26_round.f N y1 y3 y5 y6 y7 y8 w K
theorem ref26_Block.lok3 : LoopOk Try.prog ref26_Block.L ref26_Block.b0 := by
  refine loop_ok tab_ok ref26_Block.C_ok (D := ref26_Block.D) (ref26_Block.hn3) (ref26_Block.hx3) (by kernel_rfl) (by rw [ref26_Block.b0_loops]; exact lnil) ?_ ?_ ?_ ?_
  · intro f w K h
    unfold ref26_Block.hn3 at h
    obtain ⟨hlen, h⟩ := gN_ok h
    obtain ⟨y1, h1, h⟩ := gI_ok h
    obtain ⟨y3, h3, h⟩ := gQ_ok h
    obtain ⟨y5, h5, h⟩ := gQ_ok h
    obtain ⟨y6, h6, h⟩ := gQ_ok h
    obtain ⟨y7, h7, h⟩ := gQ_ok h
    obtain ⟨y8, h8, h⟩ := gI_ok h
    exact h
  · intro N f w K h
    unfold ref26_Block.hn3 at h
    obtain ⟨hlen, h⟩ := gN_ok h
    obtain ⟨y1, h1, h⟩ := gI_ok h
    obtain ⟨y3, h3, h⟩ := gQ_ok h
    obtain ⟨y5, h5, h⟩ := gQ_ok h
    obtain ⟨y6, h6, h⟩ := gQ_ok h
    obtain ⟨y7, h7, h⟩ := gQ_ok h
    obtain ⟨y8, h8, h⟩ := gI_ok h
    refine ⟨[none, some (Value.int .u32 y1), none, some (Value.pointer (some y3)), none, some (Value.pointer (some y5)), some (Value.pointer (some y6)), some (Value.pointer (some y7)), some (Value.int .i64 y8), none, none, none, none, none, none, none, none, none, none, none, none, none, none, none, none, none, none, none, none, none, none, none, none, none, none, none, none, none, none, none, none, none, none, none, none, none, none, none, none, none, none, none, none, none, none, none, none, none, none, none, none, none, none, none, none, none, none, none, none, none, none, none, none, none, none, none, none, none, none, none, none, none, none, none, none, none, none, none, none, none], hlen, ⟨h1, h3, h5, h6, h7, h8, trivial⟩, ?_⟩
    rw [ref26_Block.le3]
    exact h
  · intro e f w K h
    cases e with
    | normal => exact h.elim
    | exit i =>
      unfold ref26_Block.hx3 at h
      simp only at h
      split at h
      · rename_i hb
        obtain rfl := Nat.eq_of_beq_eq_true hb
        obtain ⟨hlen, h⟩ := gN_ok h
        obtain ⟨o1, h1, h⟩ := gI_ok h
        obtain ⟨o5, h5, h⟩ := gQ_ok h
        obtain ⟨o6, h6, h⟩ := gQ_ok h
        obtain ⟨o7, h7, h⟩ := gQ_ok h
        exact ⟨[none, some (Value.int .u32 o1), none, none, none, some (Value.pointer (some o5)), some (Value.pointer (some o6)), some (Value.pointer (some o7)), none, none, none, none, none, none, none, none, none, none, none, none, none, none, none, none, none, none, none, none, none, none, none, none, none, none, none, none, none, none, none, none, none, none, none, none, none, none, none, none, none, none, none, none, none, none, none, none, none, none, none, none, none, none, none, none, none, none, none, none, none, none, none, none, none, none, none, none, none, none, none, none, none, none, none, none, none, none, none, none, none, none], hlen, ⟨h1, h5, h6, h7, trivial⟩, h⟩
      · exact (show False from h).elim
    | ret =>
      exact (show False from h).elim
  · intro f w K h
    have e : lid ref26_Block.b0 = 3 := by kernel_rfl
    rw [e] at h
    exact h
theorem ref26_Block.leG8 (F52 : type_of% @ref26_little.f) (F53 : type_of% @ref26_round.f) (N : Nat) (y5 : Addr) (y6 : Addr) (y7 : Addr) (y9 : Int) (w : World) (K : AExit → Fr → World → Prop) : awp (ref26_Block.CG F52 F53) ref26_Block.L ref26_Block.D tab ref26_Block.b1 (lpost ref26_Block.hn8 ref26_Block.hx8 N K) [none, none, none, none, none, some (Value.pointer (some y5)), some (Value.pointer (some y6)), some (Value.pointer (some y7)), none, some (Value.int .i64 y9), none, none, none, none, none, none, none, none, none, none, none, none, none, none, none, none, none, none, none, none, none, none, none, none, none, none, none, none, none, none, none, none, none, none, none, none, none, none, none, none, none, none, none, none, none, none, none, none, none, none, none, none, none, none, none, none, none, none, none, none, none, none, none, none, none, none, none, none, none, none, none, none, none, none, none, none, none, none, none, none] w = ref26_Block.l8G F52 F53 (ref26_Block.l8 N) y5 y6 y7 y9 w (fun o6 o7 w => K (.exit 2) [none, none, none, none, none, none, some (Value.pointer (some o6)), some (Value.pointer (some o7)), none, none, none, none, none, none, none, none, none, none, none, none, none, none, none, none, none, none, none, none, none, none, none, none, none, none, none, none, none, none, none, none, none, none, none, none, none, none, none, none, none, none, none, none, none, none, none, none, none, none, none, none, none, none, none, none, none, none, none, none, none, none, none, none, none, none, none, none, none, none, none, none, none, none, none, none, none, none, none, none, none, none] w) := by kernel_rfl
theorem ref26_Block.les8 (N : Nat) : ref26_Block.l8 (N + 1) = ref26_Block.l8G @ref26_little.f @ref26_round.f (ref26_Block.l8 N) := by kernel_rfl
theorem ref26_Block.le8 (N : Nat) (y5 : Addr) (y6 : Addr) (y7 : Addr) (y9 : Int) (w : World) (K : AExit → Fr → World → Prop) : awp ref26_Block.C ref26_Block.L ref26_Block.D tab ref26_Block.b1 (lpost ref26_Block.hn8 ref26_Block.hx8 N K) [none, none, none, none, none, some (Value.pointer (some y5)), some (Value.pointer (some y6)), some (Value.pointer (some y7)), none, some (Value.int .i64 y9), none, none, none, none, none, none, none, none, none, none, none, none, none, none, none, none, none, none, none, none, none, none, none, none, none, none, none, none, none, none, none, none, none, none, none, none, none, none, none, none, none, none, none, none, none, none, none, none, none, none, none, none, none, none, none, none, none, none, none, none, none, none, none, none, none, none, none, none, none, none, none, none, none, none, none, none, none, none, none, none] w = ref26_Block.l8 (N + 1) y5 y6 y7 y9 w (fun o6 o7 w => K (.exit 2) [none, none, none, none, none, none, some (Value.pointer (some o6)), some (Value.pointer (some o7)), none, none, none, none, none, none, none, none, none, none, none, none, none, none, none, none, none, none, none, none, none, none, none, none, none, none, none, none, none, none, none, none, none, none, none, none, none, none, none, none, none, none, none, none, none, none, none, none, none, none, none, none, none, none, none, none, none, none, none, none, none, none, none, none, none, none, none, none, none, none, none, none, none, none, none, none, none, none, none, none, none, none] w) := by
  rw [ref26_Block.les8]
  exact ref26_Block.leG8 @ref26_little.f @ref26_round.f N y5 y6 y7 y9 w K
theorem ref26_Block.lok8 : LoopOk Try.prog ref26_Block.L ref26_Block.b1 := by
  refine loop_ok tab_ok ref26_Block.C_ok (D := ref26_Block.D) (ref26_Block.hn8) (ref26_Block.hx8) (by kernel_rfl) (by rw [ref26_Block.b1_loops]; exact lnil) ?_ ?_ ?_ ?_
  · intro f w K h
    unfold ref26_Block.hn8 at h
    obtain ⟨hlen, h⟩ := gN_ok h
    obtain ⟨y5, h5, h⟩ := gQ_ok h
    obtain ⟨y6, h6, h⟩ := gQ_ok h
    obtain ⟨y7, h7, h⟩ := gQ_ok h
    obtain ⟨y9, h9, h⟩ := gI_ok h
    exact h
  · intro N f w K h
    unfold ref26_Block.hn8 at h
    obtain ⟨hlen, h⟩ := gN_ok h
    obtain ⟨y5, h5, h⟩ := gQ_ok h
    obtain ⟨y6, h6, h⟩ := gQ_ok h
    obtain ⟨y7, h7, h⟩ := gQ_ok h
    obtain ⟨y9, h9, h⟩ := gI_ok h
    refine ⟨[none, none, none, none, none, some (Value.pointer (some y5)), some (Value.pointer (some y6)), some (Value.pointer (some y7)), none, some (Value.int .i64 y9), none, none, none, none, none, none, none, none, none, none, none, none, none, none, none, none, none, none, none, none, none, none, none, none, none, none, none, none, none, none, none, none, none, none, none, none, none, none, none, none, none, none, none, none, none, none, none, none, none, none, none, none, none, none, none, none, none, none, none, none, none, none, none, none, none, none, none, none, none, none, none, none, none, none, none, none, none, none, none, none], hlen, ⟨h5, h6, h7, h9, trivial⟩, ?_⟩
    rw [ref26_Block.le8]
    exact h
  · intro e f w K h
    cases e with
    | normal => exact h.elim
    | exit i =>
      unfold ref26_Block.hx8 at h
      simp only at h
      split at h
      · rename_i hb
        obtain rfl := Nat.eq_of_beq_eq_true hb
        obtain ⟨hlen, h⟩ := gN_ok h
        obtain ⟨o6, h6, h⟩ := gQ_ok h
        obtain ⟨o7, h7, h⟩ := gQ_ok h
        exact ⟨[none, none, none, none, none, none, some (Value.pointer (some o6)), some (Value.pointer (some o7)), none, none, none, none, none, none, none, none, none, none, none, none, none, none, none, none, none, none, none, none, none, none, none, none, none, none, none, none, none, none, none, none, none, none, none, none, none, none, none, none, none, none, none, none, none, none, none, none, none, none, none, none, none, none, none, none, none, none, none, none, none, none, none, none, none, none, none, none, none, none, none, none, none, none, none, none, none, none, none, none, none, none], hlen, ⟨h6, h7, trivial⟩, h⟩
      · exact (show False from h).elim
    | ret =>
      exact (show False from h).elim
  · intro f w K h
    have e : lid ref26_Block.b1 = 8 := by kernel_rfl
    rw [e] at h
    exact h
theorem ref26_Block.leG13 (F52 : type_of% @ref26_little.f) (F53 : type_of% @ref26_round.f) (N : Nat) (y6 : Addr) (y7 : Addr) (y10 : Addr) (y11 : Int) (w : World) (K : AExit → Fr → World → Prop) : awp (ref26_Block.CG F52 F53) ref26_Block.L ref26_Block.D tab ref26_Block.b2 (lpost ref26_Block.hn13 ref26_Block.hx13 N K) [none, none, none, none, none, none, some (Value.pointer (some y6)), some (Value.pointer (some y7)), none, none, some (Value.pointer (some y10)), some (Value.int .i64 y11), none, none, none, none, none, none, none, none, none, none, none, none, none, none, none, none, none, none, none, none, none, none, none, none, none, none, none, none, none, none, none, none, none, none, none, none, none, none, none, none, none, none, none, none, none, none, none, none, none, none, none, none, none, none, none, none, none, none, none, none, none, none, none, none, none, none, none, none, none, none, none, none, none, none, none, none, none, none] w = ref26_Block.l13G F52 F53 (ref26_Block.l13 N) y6 y7 y10 y11 w (fun o6 o7 o10 w => K (.exit 4) [none, none, none, none, none, none, some (Value.pointer (some o6)), some (Value.pointer (some o7)), none, none, some (Value.pointer (some o10)), none, none, none, none, none, none, none, none, none, none, none, none, none, none, none, none, none, none, none, none, none, none, none, none, none, none, none, none, none, none, none, none, none, none, none, none, none, none, none, none, none, none, none, none, none, none, none, none, none, none, none, none, none, none, none, none, none, none, none, none, none, none, none, none, none, none, none, none, none, none, none, none, none, none, none, none, none, none, none] w) := by kernel_rfl
theorem ref26_Block.les13 (N : Nat) : ref26_Block.l13 (N + 1) = ref26_Block.l13G @ref26_little.f @ref26_round.f (ref26_Block.l13 N) := by kernel_rfl
theorem ref26_Block.le13 (N : Nat) (y6 : Addr) (y7 : Addr) (y10 : Addr) (y11 : Int) (w : World) (K : AExit → Fr → World → Prop) : awp ref26_Block.C ref26_Block.L ref26_Block.D tab ref26_Block.b2 (lpost ref26_Block.hn13 ref26_Block.hx13 N K) [none, none, none, none, none, none, some (Value.pointer (some y6)), some (Value.pointer (some y7)), none, none, some (Value.pointer (some y10)), some (Value.int .i64 y11), none, none, none, none, none, none, none, none, none, none, none, none, none, none, none, none, none, none, none, none, none, none, none, none, none, none, none, none, none, none, none, none, none, none, none, none, none, none, none, none, none, none, none, none, none, none, none, none, none, none, none, none, none, none, none, none, none, none, none, none, none, none, none, none, none, none, none, none, none, none, none, none, none, none, none, none, none, none] w = ref26_Block.l13 (N + 1) y6 y7 y10 y11 w (fun o6 o7 o10 w => K (.exit 4) [none, none, none, none, none, none, some (Value.pointer (some o6)), some (Value.pointer (some o7)), none, none, some (Value.pointer (some o10)), none, none, none, none, none, none, none, none, none, none, none, none, none, none, none, none, none, none, none, none, none, none, none, none, none, none, none, none, none, none, none, none, none, none, none, none, none, none, none, none, none, none, none, none, none, none, none, none, none, none, none, none, none, none, none, none, none, none, none, none, none, none, none, none, none, none, none, none, none, none, none, none, none, none, none, none, none, none, none] w) := by
  rw [ref26_Block.les13]
  exact ref26_Block.leG13 @ref26_little.f @ref26_round.f N y6 y7 y10 y11 w K
theorem ref26_Block.lok13 : LoopOk Try.prog ref26_Block.L ref26_Block.b2 := by
  refine loop_ok tab_ok ref26_Block.C_ok (D := ref26_Block.D) (ref26_Block.hn13) (ref26_Block.hx13) (by kernel_rfl) (by rw [ref26_Block.b2_loops]; exact lnil) ?_ ?_ ?_ ?_
  · intro f w K h
    unfold ref26_Block.hn13 at h
    obtain ⟨hlen, h⟩ := gN_ok h
    obtain ⟨y6, h6, h⟩ := gQ_ok h
    obtain ⟨y7, h7, h⟩ := gQ_ok h
    obtain ⟨y10, h10, h⟩ := gQ_ok h
    obtain ⟨y11, h11, h⟩ := gI_ok h
    exact h
  · intro N f w K h
    unfold ref26_Block.hn13 at h
    obtain ⟨hlen, h⟩ := gN_ok h
    obtain ⟨y6, h6, h⟩ := gQ_ok h
    obtain ⟨y7, h7, h⟩ := gQ_ok h
    obtain ⟨y10, h10, h⟩ := gQ_ok h
    obtain ⟨y11, h11, h⟩ := gI_ok h
    refine ⟨[none, none, none, none, none, none, some (Value.pointer (some y6)), some (Value.pointer (some y7)), none, none, some (Value.pointer (some y10)), some (Value.int .i64 y11), none, none, none, none, none, none, none, none, none, none, none, none, none, none, none, none, none, none, none, none, none, none, none, none, none, none, none, none, none, none, none, none, none, none, none, none, none, none, none, none, none, none, none, none, none, none, none, none, none, none, none, none, none, none, none, none, none, none, none, none, none, none, none, none, none, none, none, none, none, none, none, none, none, none, none, none, none, none], hlen, ⟨h6, h7, h10, h11, trivial⟩, ?_⟩
    rw [ref26_Block.le13]
    exact h
  · intro e f w K h
    cases e with
    | normal => exact h.elim
    | exit i =>
      unfold ref26_Block.hx13 at h
      simp only at h
      split at h
      · rename_i hb
        obtain rfl := Nat.eq_of_beq_eq_true hb
        obtain ⟨hlen, h⟩ := gN_ok h
        obtain ⟨o6, h6, h⟩ := gQ_ok h
        obtain ⟨o7, h7, h⟩ := gQ_ok h
        obtain ⟨o10, h10, h⟩ := gQ_ok h
        exact ⟨[none, none, none, none, none, none, some (Value.pointer (some o6)), some (Value.pointer (some o7)), none, none, some (Value.pointer (some o10)), none, none, none, none, none, none, none, none, none, none, none, none, none, none, none, none, none, none, none, none, none, none, none, none, none, none, none, none, none, none, none, none, none, none, none, none, none, none, none, none, none, none, none, none, none, none, none, none, none, none, none, none, none, none, none, none, none, none, none, none, none, none, none, none, none, none, none, none, none, none, none, none, none, none, none, none, none, none, none], hlen, ⟨h6, h7, h10, trivial⟩, h⟩
      · exact (show False from h).elim
    | ret =>
      exact (show False from h).elim
  · intro f w K h
    have e : lid ref26_Block.b2 = 13 := by kernel_rfl
    rw [e] at h
    exact h
theorem ref26_Block.leG25 (F52 : type_of% @ref26_little.f) (F53 : type_of% @ref26_round.f) (N : Nat) (y6 : Addr) (y7 : Addr) (y10 : Addr) (y12 : Addr) (y13 : Int) (w : World) (K : AExit → Fr → World → Prop) : awp (ref26_Block.CG F52 F53) ref26_Block.L ref26_Block.D tab ref26_Block.b3 (lpost ref26_Block.hn25 ref26_Block.hx25 N K) [none, none, none, none, none, none, some (Value.pointer (some y6)), some (Value.pointer (some y7)), none, none, some (Value.pointer (some y10)), none, some (Value.pointer (some y12)), some (Value.int .i64 y13), none, none, none, none, none, none, none, none, none, none, none, none, none, none, none, none, none, none, none, none, none, none, none, none, none, none, none, none, none, none, none, none, none, none, none, none, none, none, none, none, none, none, none, none, none, none, none, none, none, none, none, none, none, none, none, none, none, none, none, none, none, none, none, none, none, none, none, none, none, none, none, none, none, none, none, none] w = ref26_Block.l25G F52 F53 (ref26_Block.l25 N) y6 y7 y10 y12 y13 w (fun o6 o12 w => K (.exit 6) [none, none, none, none, none, none, some (Value.pointer (some o6)), none, none, none, none, none, some (Value.pointer (some o12)), none, none, none, none, none, none, none, none, none, none, none, none, none, none, none, none, none, none, none, none, none, none, none, none, none, none, none, none, none, none, none, none, none, none, none, none, none, none, none, none, none, none, none, none, none, none, none, none, none, none, none, none, none, none, none, none, none, none, none, none, none, none, none, none, none, none, none, none, none, none, none, none, none, none, none, none, none] w) := by kernel_rfl
theorem ref26_Block.les25 (N : Nat) : ref26_Block.l25 (N + 1) = ref26_Block.l25G @ref26_little.f @ref26_round.f (ref26_Block.l25 N) := by kernel_rfl
theorem ref26_Block.le25 (N : Nat) (y6 : Addr) (y7 : Addr) (y10 : Addr) (y12 : Addr) (y13 : Int) (w : World) (K : AExit → Fr → World → Prop) : awp ref26_Block.C ref26_Block.L ref26_Block.D tab ref26_Block.b3 (lpost ref26_Block.hn25 ref26_Block.hx25 N K) [none, none, none, none, none, none, some (Value.pointer (some y6)), some (Value.pointer (some y7)), none, none, some (Value.pointer (some y10)), none, some (Value.pointer (some y12)), some (Value.int .i64 y13), none, none, none, none, none, none, none, none, none, none, none, none, none, none, none, none, none, none, none, none, none, none, none, none, none, none, none, none, none, none, none, none, none, none, none, none, none, none, none, none, none, none, none, none, none, none, none, none, none, none, none, none, none, none, none, none, none, none, none, none, none, none, none, none, none, none, none, none, none, none, none, none, none, none, none, none] w = ref26_Block.l25 (N + 1) y6 y7 y10 y12 y13 w (fun o6 o12 w => K (.exit 6) [none, none, none, none, none, none, some (Value.pointer (some o6)), none, none, none, none, none, some (Value.pointer (some o12)), none, none, none, none, none, none, none, none, none, none, none, none, none, none, none, none, none, none, none, none, none, none, none, none, none, none, none, none, none, none, none, none, none, none, none, none, none, none, none, none, none, none, none, none, none, none, none, none, none, none, none, none, none, none, none, none, none, none, none, none, none, none, none, none, none, none, none, none, none, none, none, none, none, none, none, none, none] w) := by
  rw [ref26_Block.les25]
  exact ref26_Block.leG25 @ref26_little.f @ref26_round.f N y6 y7 y10 y12 y13 w K
theorem ref26_Block.lok25 : LoopOk Try.prog ref26_Block.L ref26_Block.b3 := by
  refine loop_ok tab_ok ref26_Block.C_ok (D := ref26_Block.D) (ref26_Block.hn25) (ref26_Block.hx25) (by kernel_rfl) (by rw [ref26_Block.b3_loops]; exact lnil) ?_ ?_ ?_ ?_
  · intro f w K h
    unfold ref26_Block.hn25 at h
    obtain ⟨hlen, h⟩ := gN_ok h
    obtain ⟨y6, h6, h⟩ := gQ_ok h
    obtain ⟨y7, h7, h⟩ := gQ_ok h
    obtain ⟨y10, h10, h⟩ := gQ_ok h
    obtain ⟨y12, h12, h⟩ := gQ_ok h
    obtain ⟨y13, h13, h⟩ := gI_ok h
    exact h
  · intro N f w K h
    unfold ref26_Block.hn25 at h
    obtain ⟨hlen, h⟩ := gN_ok h
    obtain ⟨y6, h6, h⟩ := gQ_ok h
    obtain ⟨y7, h7, h⟩ := gQ_ok h
    obtain ⟨y10, h10, h⟩ := gQ_ok h
    obtain ⟨y12, h12, h⟩ := gQ_ok h
    obtain ⟨y13, h13, h⟩ := gI_ok h
    refine ⟨[none, none, none, none, none, none, some (Value.pointer (some y6)), some (Value.pointer (some y7)), none, none, some (Value.pointer (some y10)), none, some (Value.pointer (some y12)), some (Value.int .i64 y13), none, none, none, none, none, none, none, none, none, none, none, none, none, none, none, none, none, none, none, none, none, none, none, none, none, none, none, none, none, none, none, none, none, none, none, none, none, none, none, none, none, none, none, none, none, none, none, none, none, none, none, none, none, none, none, none, none, none, none, none, none, none, none, none, none, none, none, none, none, none, none, none, none, none, none, none], hlen, ⟨h6, h7, h10, h12, h13, trivial⟩, ?_⟩
    rw [ref26_Block.le25]
    exact h
  · intro e f w K h
    cases e with
    | normal => exact h.elim
    | exit i =>
      unfold ref26_Block.hx25 at h
      simp only at h
      split at h
      · rename_i hb
        obtain rfl := Nat.eq_of_beq_eq_true hb
        obtain ⟨hlen, h⟩ := gN_ok h
        obtain ⟨o6, h6, h⟩ := gQ_ok h
        obtain ⟨o12, h12, h⟩ := gQ_ok h
        exact ⟨[none, none, none, none, none, none, some (Value.pointer (some o6)), none, none, none, none, none, some (Value.pointer (some o12)), none, none, none, none, none, none, none, none, none, none, none, none, none, none, none, none, none, none, none, none, none, none, none, none, none, none, none, none, none, none, none, none, none, none, none, none, none, none, none, none, none, none, none, none, none, none, none, none, none, none, none, none, none, none, none, none, none, none, none, none, none, none, none, none, none, none, none, none, none, none, none, none, none, none, none, none, none], hlen, ⟨h6, h12, trivial⟩, h⟩
      · exact (show False from h).elim
    | ret =>
      exact (show False from h).elim
  · intro f w K h
    have e : lid ref26_Block.b3 = 25 := by kernel_rfl
    rw [e] at h
    exact h
theorem ref26_Block.eqG (F52 : type_of% @ref26_little.f) (F53 : type_of% @ref26_round.f) (a0 : Array Value) (a1 : Int) (a2_0 : Int) (a2_1 : Int) (a2_2 : Int) (a2_3 : Int) (a2_4 : Int) (a2_5 : Int) (a2_6 : Int) (a2_7 : Int) (a2_8 : Int) (a2_9 : Int) (a2_10 : Int) (a2_11 : Int) (w : World) (K : Value → World → Prop) : afn (ref26_Block.CG F52 F53) ref26_Block.L ref26_Block.D tab Try.f30 [(Value.agg a0), (Value.int .u32 a1), (Value.agg #[(Value.int .u8 a2_0), (Value.int .u8 a2_1), (Value.int .u8 a2_2), (Value.int .u8 a2_3), (Value.int .u8 a2_4), (Value.int .u8 a2_5), (Value.int .u8 a2_6), (Value.int .u8 a2_7), (Value.int .u8 a2_8), (Value.int .u8 a2_9), (Value.int .u8 a2_10), (Value.int .u8 a2_11)])] w K = ref26_Block.G F52 F53 a0 a1 a2_0 a2_1 a2_2 a2_3 a2_4 a2_5 a2_6 a2_7 a2_8 a2_9 a2_10 a2_11 w (fun r0 w => K (Value.agg r0) w) := by kernel_rfl
theorem ref26_Block.eq (a0 : Array Value) (a1 : Int) (a2_0 : Int) (a2_1 : Int) (a2_2 : Int) (a2_3 : Int) (a2_4 : Int) (a2_5 : Int) (a2_6 : Int) (a2_7 : Int) (a2_8 : Int) (a2_9 : Int) (a2_10 : Int) (a2_11 : Int) (w : World) (K : Value → World → Prop) : afn ref26_Block.C ref26_Block.L ref26_Block.D tab Try.f30 [(Value.agg a0), (Value.int .u32 a1), (Value.agg #[(Value.int .u8 a2_0), (Value.int .u8 a2_1), (Value.int .u8 a2_2), (Value.int .u8 a2_3), (Value.int .u8 a2_4), (Value.int .u8 a2_5), (Value.int .u8 a2_6), (Value.int .u8 a2_7), (Value.int .u8 a2_8), (Value.int .u8 a2_9), (Value.int .u8 a2_10), (Value.int .u8 a2_11)])] w K = ref26_Block.f a0 a1 a2_0 a2_1 a2_2 a2_3 a2_4 a2_5 a2_6 a2_7 a2_8 a2_9 a2_10 a2_11 w (fun r0 w => K (Value.agg r0) w) := ref26_Block.eqG @ref26_little.f @ref26_round.f a0 a1 a2_0 a2_1 a2_2 a2_3 a2_4 a2_5 a2_6 a2_7 a2_8 a2_9 a2_10 a2_11 w K
theorem ref26_Block.ok : FSound Try.prog 30 ref26_Block.h := by
  intro args w K h
  unfold ref26_Block.h ref26_Block.H at h
  split at h
  ·
    replace h := vA_ok h
    obtain ⟨a0, rfl, h⟩ := h
    replace h := vI_ok h
    obtain ⟨a1, rfl, h⟩ := h
    replace h := vT_ok h
    obtain ⟨l, rfl, h⟩ := h
    replace h := cI_ok h; obtain ⟨a2_0, l, rfl, h⟩ := h
    replace h := cI_ok h; obtain ⟨a2_1, l, rfl, h⟩ := h
    replace h := cI_ok h; obtain ⟨a2_2, l, rfl, h⟩ := h
    replace h := cI_ok h; obtain ⟨a2_3, l, rfl, h⟩ := h
    replace h := cI_ok h; obtain ⟨a2_4, l, rfl, h⟩ := h
    replace h := cI_ok h; obtain ⟨a2_5, l, rfl, h⟩ := h
    replace h := cI_ok h; obtain ⟨a2_6, l, rfl, h⟩ := h
    replace h := cI_ok h; obtain ⟨a2_7, l, rfl, h⟩ := h
    replace h := cI_ok h; obtain ⟨a2_8, l, rfl, h⟩ := h
    replace h := cI_ok h; obtain ⟨a2_9, l, rfl, h⟩ := h
    replace h := cI_ok h; obtain ⟨a2_10, l, rfl, h⟩ := h
    replace h := cI_ok h; obtain ⟨a2_11, l, rfl, h⟩ := h
    replace h := cE_ok h; obtain ⟨rfl, h⟩ := h
    refine ⟨by kernel_rfl, fn_ok tab_ok ref26_Block.C_ok (L := ref26_Block.L) (D := ref26_Block.D) Try.func30 ref26_Block.hb (by kernel_rfl) (by rw [ref26_Block.c_loops]; exact lcons ref26_Block.lok3 (lcons ref26_Block.lok8 (lcons ref26_Block.lok13 (lcons ref26_Block.lok25 (lnil))))) (Nat.le_of_ble_eq_true (by kernel_rfl)) ?_⟩
    rw [ref26_Block.eq]
    exact h
  · exact h.elim
/-! ### valise/chacha.Xor: function 32 -/
def chacha_Xor.l7 : Nat → Int → Addr → Addr → Option Addr → Nat → Nat → Int → Addr → Int → Int → World → (Int → Addr → Addr → Option Addr → Nat → Nat → Int → World → Prop) → Prop
  | 0, _, _, _, _, _, _, _, _, _, _, _, _ => False
  | N + 1, y2, y4, y5, y9, y9n, y9c, y10, y11, y33, y34, w, K2 =>
    bif (decide (y34 < y33)) then
      sm y9 fun p_35 =>
      if 0 ≤ ((IntKind.wrap .i64 (y10 + y34)) : Int) ∧ ((IntKind.wrap .i64 (y10 + y34)) : Int) < ((y9n : Nat) : Int) then
      ldI .u8 (p_35.add (Int.toNat (IntKind.wrap .i64 (y10 + y34)))) w.drew fun x42_36 =>
      if 0 ≤ (y34 : Int) ∧ (y34 : Int) < ((64 : Nat) : Int) then
      ldI .u8 (y11.add (Int.toNat y34)) w.drew fun x45_37 =>
      sm y9 fun p_38 =>
      if 0 ≤ ((IntKind.wrap .i64 (y10 + y34)) : Int) ∧ ((IntKind.wrap .i64 (y10 + y34)) : Int) < ((y9n : Nat) : Int) then
      stC (p_38.add (Int.toNat (IntKind.wrap .i64 (y10 + y34)))) (Value.int .u8 (bxor .u8 x42_36 x45_37)) w.drew fun w =>
      chacha_Xor.l7 N y2 y4 y5 y9 y9n y9c y10 y11 y33 (IntKind.wrap .i64 (y34 + 1)) w K2
      else False
      else False
      else False
    else
      K2 y2 y4 y5 y9 y9n y9c y10 w

def chacha_Xor.l3 : Nat → Int → Addr → Addr → Option Addr → Nat → Nat → Int → World → (Option Addr → Nat → Nat → World → Prop) → Prop
  | 0, _, _, _, _, _, _, _, _, _ => False
  | N + 1, y2, y4, y5, y9, y9n, y9c, y10, w, K0 =>
    bif (decide (y10 < ((y9n : Nat) : Int))) then
      ldA y4 32 w fun x21_12 =>
      ldI .u8 (y5.add 0) w fun x23_13 =>
      ldI .u8 (y5.add 1) w fun x23_14 =>
      ldI .u8 (y5.add 2) w fun x23_15 =>
      ldI .u8 (y5.add 3) w fun x23_16 =>
      ldI .u8 (y5.add 4) w fun x23_17 =>
      ldI .u8 (y5.add 5) w fun x23_18 =>
      ldI .u8 (y5.add 6) w fun x23_19 =>
      ldI .u8 (y5.add 7) w fun x23_20 =>
      ldI .u8 (y5.add 8) w fun x23_21 =>
      ldI .u8 (y5.add 9) w fun x23_22 =>
      ldI .u8 (y5.add 10) w fun x23_23 =>
      ldI .u8 (y5.add 11) w fun x23_24 =>
      chacha_Block.f x21_12.toArray y2 x23_13 x23_14 x23_15 x23_16 x23_17 x23_18 x23_19 x23_20 x23_21 x23_22 x23_23 x23_24 w fun r24_25 w =>
      newC 45 (List.replicate 64 (Value.int .u8 0)) w fun a11_26 w =>
      if (r24_25).size = 64 then
      stCs a11_26 (r24_25).toList 0 w fun w =>
      bnd y9n y9c (some (Value.int .i64 y10)) (some (Value.int .i64 (mn (IntKind.wrap .i64 (y10 + 64)) ((y9n : Nat) : Int)))) fun l_29 h_30 =>
      ∃ N_39 : Nat, chacha_Xor.l7 N_39 y2 y4 y5 y9 y9n y9c y10 a11_26 (((h_30 - l_29) : Nat) : Int) 0 w
      (fun o2_40 o4_41 o5_42 o9_43 o9_43n o9_43c o10_44 w =>
        let v2_45 := (IntKind.wrap .u32 (o2_40 + 1))
        let v10_46 := (IntKind.wrap .i64 (o10_44 + 64))
        chacha_Xor.l3 N v2_45 o4_41 o5_42 o9_43 o9_43n o9_43c v10_46 w K0)
      else False
    else
      K0 y9 y9n y9c w

def chacha_Xor.f (a0 : Array Value) (a1_0 : Int) (a1_1 : Int) (a1_2 : Int) (a1_3 : Int) (a1_4 : Int) (a1_5 : Int) (a1_6 : Int) (a1_7 : Int) (a1_8 : Int) (a1_9 : Int) (a1_10 : Int) (a1_11 : Int) (a2 : Int) (a3 : Option Addr) (a3n : Nat) (a3c : Nat) (w : World) (K : Option Addr → Nat → Nat → World → Prop) : Prop :=
  newC 40 (a0).toList w fun a4_2 w =>
  newC 41 [(Value.int .u8 a1_0), (Value.int .u8 a1_1), (Value.int .u8 a1_2), (Value.int .u8 a1_3), (Value.int .u8 a1_4), (Value.int .u8 a1_5), (Value.int .u8 a1_6), (Value.int .u8 a1_7), (Value.int .u8 a1_8), (Value.int .u8 a1_9), (Value.int .u8 a1_10), (Value.int .u8 a1_11)] w fun a5_3 w =>
  appL 5 1 1 [(Value.int .u8 0)] none 0 0 a3 a3n a3c w fun a14_5 a14_5n a14_5c w =>
  ∃ N_47 : Nat, chacha_Xor.l3 N_47 a2 a4_2 a5_3 a14_5 a14_5n a14_5c 0 w
  (fun o9_48 o9_48n o9_48c w =>
    K o9_48 o9_48n o9_48c w)
def chacha_Xor.H (F : type_of% @chacha_Xor.f) : Hf := fun args w K => match args with
  | [v0, v1, v2, v3] => vA v0 fun a0 => vT v1 fun l => cI .u8 l fun a1_0 l => cI .u8 l fun a1_1 l => cI .u8 l fun a1_2 l => cI .u8 l fun a1_3 l => cI .u8 l fun a1_4 l => cI .u8 l fun a1_5 l => cI .u8 l fun a1_6 l => cI .u8 l fun a1_7 l => cI .u8 l fun a1_8 l => cI .u8 l fun a1_9 l => cI .u8 l fun a1_10 l => cI .u8 l fun a1_11 l => cE l <| vI .u32 v2 fun a2 => vL v3 fun a3 a3n a3c => F a0 a1_0 a1_1 a1_2 a1_3 a1_4 a1_5 a1_6 a1_7 a1_8 a1_9 a1_10 a1_11 a2 a3 a3n a3c w (fun r0 r0n r0c w => K (Value.slice r0 r0n r0c) w)
  | _ => False
def chacha_Xor.h : Hf := chacha_Xor.H @chacha_Xor.f
def chacha_Xor.C : Hd := hcons 29 chacha_Block.h (hnil)
theorem chacha_Xor.C_ok : CSound Try.prog chacha_Xor.C := hcons_ok chacha_Block.ok (hnil_ok)
def chacha_Xor.D : Nat → Plan := fun i => (match Nat.beq i 9 with | true => .take 0 (.take 1 (.take 2 (.take 3 (.take 4 (.take 5 (.take 6 (.take 7 (.take 8 (.take 9 (.take 10 (.eff 11 (.done)))))))))))) | false => .done)
noncomputable def chacha_Xor.c : Code := Try.f32.body.getD .skip
theorem chacha_Xor.hb : Try.f32.body = some chacha_Xor.c := by kernel_rfl
noncomputable def chacha_Xor.b0 : Code := (loopsOf chacha_Xor.c).getD 0 .skip
noncomputable def chacha_Xor.b0_0 : Code := (loopsOf chacha_Xor.b0).getD 0 .skip
theorem chacha_Xor.b0_0_loops : loopsOf chacha_Xor.b0_0 = [] := by kernel_rfl
theorem chacha_Xor.b0_loops : loopsOf chacha_Xor.b0 = [chacha_Xor.b0_0] := by kernel_rfl
theorem chacha_Xor.c_loops : loopsOf chacha_Xor.c = [chacha_Xor.b0] := by kernel_rfl
def chacha_Xor.hn7 (N : Nat) (f : Fr) (w : World) (K : AExit → Fr → World → Prop) : Prop :=
  gN f 52 <| gI .u32 f 2 fun y2 => gQ f 4 fun y4 => gQ f 5 fun y5 => gL f 9 fun y9 y9n y9c => gI .i64 f 10 fun y10 => gQ f 11 fun y11 => gI .i64 f 33 fun y33 => gI .i64 f 34 fun y34 => chacha_Xor.l7 N y2 y4 y5 y9 y9n y9c y10 y11 y33 y34 w (fun o2 o4 o5 o9 o9n o9c o10 w => K (.exit 2) [none, none, some (Value.int .u32 o2), none, some (Value.pointer (some o4)), some (Value.pointer (some o5)), none, none, none, some (Value.slice o9 o9n o9c), some (Value.int .i64 o10), none, none, none, none, none, none, none, none, none, none, none, none, none, none, none, none, none, none, none, none, none, none, none, none, none, none, none, none, none, none, none, none, none, none, none, none, none, none, none, none, none] w)
def chacha_Xor.hx7 : AExit → Fr → World → (AExit → Fr → World → Prop) → Prop := fun e f w K => match e with
  | .normal => False
  | .exit i => (match Nat.beq i 2 with | true => gN f 52 <| gI .u32 f 2 fun o2 => gQ f 4 fun o4 => gQ f 5 fun o5 => gL f 9 fun o9 o9n o9c => gI .i64 f 10 fun o10 => K (.exit 2) [none, none, some (Value.int .u32 o2), none, some (Value.pointer (some o4)), some (Value.pointer (some o5)), none, none, none, some (Value.slice o9 o9n o9c), some (Value.int .i64 o10), none, none, none, none, none, none, none, none, none, none, none, none, none, none, none, none, none, none, none, none, none, none, none, none, none, none, none, none, none, none, none, none, none, none, none, none, none, none, none, none, none] w | false => False)
  | .ret => False
def chacha_Xor.hn3 (N : Nat) (f : Fr) (w : World) (K : AExit → Fr → World → Prop) : Prop :=
  gN f 52 <| gI .u32 f 2 fun y2 => gQ f 4 fun y4 => gQ f 5 fun y5 => gL f 9 fun y9 y9n y9c => gI .i64 f 10 fun y10 => chacha_Xor.l3 N y2 y4 y5 y9 y9n y9c y10 w (fun o9 o9n o9c w => K (.exit 0) [none, none, none, none, none, none, none, none, none, some (Value.slice o9 o9n o9c), none, none, none, none, none, none, none, none, none, none, none, none, none, none, none, none, none, none, none, none, none, none, none, none, none, none, none, none, none, none, none, none, none, none, none, none, none, none, none, none, none, none] w)
def chacha_Xor.hx3 : AExit → Fr → World → (AExit → Fr → World → Prop) → Prop := fun e f w K => match e with
  | .normal => False
  | .exit i => (match Nat.beq i 0 with | true => gN f 52 <| gL f 9 fun o9 o9n o9c => K (.exit 0) [none, none, none, none, none, none, none, none, none, some (Value.slice o9 o9n o9c), none, none, none, none, none, none, none, none, none, none, none, none, none, none, none, none, none, none, none, none, none, none, none, none, none, none, none, none, none, none, none, none, none, none, none, none, none, none, none, none, none, none] w | false => False)
  | .ret => False
def chacha_Xor.L : LHd := fun l f w K => (match Nat.beq l 3 with | true => ∃ N, chacha_Xor.hn3 N f w K | false => (match Nat.beq l 7 with | true => ∃ N, chacha_Xor.hn7 N f w K | false => False))
theorem chacha_Xor.le7 (N : Nat) (y2 : Int) (y4 : Addr) (y5 : Addr) (y9 : Option Addr) (y9n : Nat) (y9c : Nat) (y10 : Int) (y11 : Addr) (y33 : Int) (y34 : Int) (w : World) (K : AExit → Fr → World → Prop) : awp chacha_Xor.C chacha_Xor.L chacha_Xor.D tab chacha_Xor.b0_0 (lpost chacha_Xor.hn7 chacha_Xor.hx7 N K) [none, none, some (Value.int .u32 y2), none, some (Value.pointer (some y4)), some (Value.pointer (some y5)), none, none, none, some (Value.slice y9 y9n y9c), some (Value.int .i64 y10), some (Value.pointer (some y11)), none, none, none, none, none, none, none, none, none, none, none, none, none, none, none, none, none, none, none, none, none, some (Value.int .i64 y33), some (Value.int .i64 y34), none, none, none, none, none, none, none, none, none, none, none, none, none, none, none, none, none] w = chacha_Xor.l7 (N + 1) y2 y4 y5 y9 y9n y9c y10 y11 y33 y34 w (fun o2 o4 o5 o9 o9n o9c o10 w => K (.exit 2) [none, none, some (Value.int .u32 o2), none, some (Value.pointer (some o4)), some (Value.pointer (some o5)), none, none, none, some (Value.slice o9 o9n o9c), some (Value.int .i64 o10), none, none, none, none, none, none, none, none, none, none, none, none, none, none, none, none, none, none, none, none, none, none, none, none, none, none, none, none, none, none, none, none, none, none, none, none, none, none, none, none, none] w) := by kernel_rfl
theorem chacha_Xor.lok7 : LoopOk Try.prog chacha_Xor.L chacha_Xor.b0_0 := by
  refine loop_ok tab_ok chacha_Xor.C_ok (D := chacha_Xor.D) (chacha_Xor.hn7) (chacha_Xor.hx7) (by kernel_rfl) (by rw [chacha_Xor.b0_0_loops]; exact lnil) ?_ ?_ ?_ ?_
  · intro f w K h
    unfold chacha_Xor.hn7 at h
    obtain ⟨hlen, h⟩ := gN_ok h
    obtain ⟨y2, h2, h⟩ := gI_ok h
    obtain ⟨y4, h4, h⟩ := gQ_ok h
    obtain ⟨y5, h5, h⟩ := gQ_ok h
    obtain ⟨y9, y9n, y9c, h9, h⟩ := gL_ok h
    obtain ⟨y10, h10, h⟩ := gI_ok h
    obtain ⟨y11, h11, h⟩ := gQ_ok h
    obtain ⟨y33, h33, h⟩ := gI_ok h
    obtain ⟨y34, h34, h⟩ := gI_ok h
    exact h
  · intro N f w K h
    unfold chacha_Xor.hn7 at h
    obtain ⟨hlen, h⟩ := gN_ok h
    obtain ⟨y2, h2, h⟩ := gI_ok h
    obtain ⟨y4, h4, h⟩ := gQ_ok h
    obtain ⟨y5, h5, h⟩ := gQ_ok h
    obtain ⟨y9, y9n, y9c, h9, h⟩ := gL_ok h
    obtain ⟨y10, h10, h⟩ := gI_ok h
    obtain ⟨y11, h11, h⟩ := gQ_ok h
    obtain ⟨y33, h33, h⟩ := gI_ok h
    obtain ⟨y34, h34, h⟩ := gI_ok h
    refine ⟨[none, none, some (Value.int .u32 y2), none, some (Value.pointer (some y4)), some (Value.pointer (some y5)), none, none, none, some (Value.slice y9 y9n y9c), some (Value.int .i64 y10), some (Value.pointer (some y11)), none, none, none, none, none, none, none, none, none, none, none, none, none, none, none, none, none, none, none, none, none, some (Value.int .i64 y33), some (Value.int .i64 y34), none, none, none, none, none, none, none, none, none, none, none, none, none, none, none, none, none], hlen, ⟨h2, h4, h5, h9, h10, h11, h33, h34, trivial⟩, ?_⟩
    rw [chacha_Xor.le7]
    exact h
  · intro e f w K h
    cases e with
    | normal => exact h.elim
    | exit i =>
      unfold chacha_Xor.hx7 at h
      simp only at h
      split at h
      · rename_i hb
        obtain rfl := Nat.eq_of_beq_eq_true hb
        obtain ⟨hlen, h⟩ := gN_ok h
        obtain ⟨o2, h2, h⟩ := gI_ok h
        obtain ⟨o4, h4, h⟩ := gQ_ok h
        obtain ⟨o5, h5, h⟩ := gQ_ok h
        obtain ⟨o9, o9n, o9c, h9, h⟩ := gL_ok h
        obtain ⟨o10, h10, h⟩ := gI_ok h
        exact ⟨[none, none, some (Value.int .u32 o2), none, some (Value.pointer (some o4)), some (Value.pointer (some o5)), none, none, none, some (Value.slice o9 o9n o9c), some (Value.int .i64 o10), none, none, none, none, none, none, none, none, none, none, none, none, none, none, none, none, none, none, none, none, none, none, none, none, none, none, none, none, none, none, none, none, none, none, none, none, none, none, none, none, none], hlen, ⟨h2, h4, h5, h9, h10, trivial⟩, h⟩
      · exact (show False from h).elim
    | ret =>
      exact (show False from h).elim
  · intro f w K h
    have e : lid chacha_Xor.b0_0 = 7 := by kernel_rfl
    rw [e] at h
    exact h
theorem chacha_Xor.le3 (N : Nat) (y2 : Int) (y4 : Addr) (y5 : Addr) (y9 : Option Addr) (y9n : Nat) (y9c : Nat) (y10 : Int) (w : World) (K : AExit → Fr → World → Prop) : awp chacha_Xor.C chacha_Xor.L chacha_Xor.D tab chacha_Xor.b0 (lpost chacha_Xor.hn3 chacha_Xor.hx3 N K) [none, none, some (Value.int .u32 y2), none, some (Value.pointer (some y4)), some (Value.pointer (some y5)), none, none, none, some (Value.slice y9 y9n y9c), some (Value.int .i64 y10), none, none, none, none, none, none, none, none, none, none, none, none, none, none, none, none, none, none, none, none, none, none, none, none, none, none, none, none, none, none, none, none, none, none, none, none, none, none, none, none, none] w = chacha_Xor.l3 (N + 1) y2 y4 y5 y9 y9n y9c y10 w (fun o9 o9n o9c w => K (.exit 0) [none, none, none, none, none, none, none, none, none, some (Value.slice o9 o9n o9c), none, none, none, none, none, none, none, none, none, none, none, none, none, none, none, none, none, none, none, none, none, none, none, none, none, none, none, none, none, none, none, none, none, none, none, none, none, none, none, none, none, none] w) := by kernel_rfl
theorem chacha_Xor.lok3 : LoopOk Try.prog chacha_Xor.L chacha_Xor.b0 := by
  refine loop_ok tab_ok chacha_Xor.C_ok (D := chacha_Xor.D) (chacha_Xor.hn3) (chacha_Xor.hx3) (by kernel_rfl) (by rw [chacha_Xor.b0_loops]; exact lcons chacha_Xor.lok7 (lnil)) ?_ ?_ ?_ ?_
  · intro f w K h
    unfold chacha_Xor.hn3 at h
    obtain ⟨hlen, h⟩ := gN_ok h
    obtain ⟨y2, h2, h⟩ := gI_ok h
    obtain ⟨y4, h4, h⟩ := gQ_ok h
    obtain ⟨y5, h5, h⟩ := gQ_ok h
    obtain ⟨y9, y9n, y9c, h9, h⟩ := gL_ok h
    obtain ⟨y10, h10, h⟩ := gI_ok h
    exact h
  · intro N f w K h
    unfold chacha_Xor.hn3 at h
    obtain ⟨hlen, h⟩ := gN_ok h
    obtain ⟨y2, h2, h⟩ := gI_ok h
    obtain ⟨y4, h4, h⟩ := gQ_ok h
    obtain ⟨y5, h5, h⟩ := gQ_ok h
    obtain ⟨y9, y9n, y9c, h9, h⟩ := gL_ok h
    obtain ⟨y10, h10, h⟩ := gI_ok h
    refine ⟨[none, none, some (Value.int .u32 y2), none, some (Value.pointer (some y4)), some (Value.pointer (some y5)), none, none, none, some (Value.slice y9 y9n y9c), some (Value.int .i64 y10), none, none, none, none, none, none, none, none, none, none, none, none, none, none, none, none, none, none, none, none, none, none, none, none, none, none, none, none, none, none, none, none, none, none, none, none, none, none, none, none, none], hlen, ⟨h2, h4, h5, h9, h10, trivial⟩, ?_⟩
    rw [chacha_Xor.le3]
    exact h
  · intro e f w K h
    cases e with
    | normal => exact h.elim
    | exit i =>
      unfold chacha_Xor.hx3 at h
      simp only at h
      split at h
      · rename_i hb
        obtain rfl := Nat.eq_of_beq_eq_true hb
        obtain ⟨hlen, h⟩ := gN_ok h
        obtain ⟨o9, o9n, o9c, h9, h⟩ := gL_ok h
        exact ⟨[none, none, none, none, none, none, none, none, none, some (Value.slice o9 o9n o9c), none, none, none, none, none, none, none, none, none, none, none, none, none, none, none, none, none, none, none, none, none, none, none, none, none, none, none, none, none, none, none, none, none, none, none, none, none, none, none, none, none, none], hlen, ⟨h9, trivial⟩, h⟩
      · exact (show False from h).elim
    | ret =>
      exact (show False from h).elim
  · intro f w K h
    have e : lid chacha_Xor.b0 = 3 := by kernel_rfl
    rw [e] at h
    exact h
theorem chacha_Xor.eq (a0 : Array Value) (a1_0 : Int) (a1_1 : Int) (a1_2 : Int) (a1_3 : Int) (a1_4 : Int) (a1_5 : Int) (a1_6 : Int) (a1_7 : Int) (a1_8 : Int) (a1_9 : Int) (a1_10 : Int) (a1_11 : Int) (a2 : Int) (a3 : Option Addr) (a3n : Nat) (a3c : Nat) (w : World) (K : Value → World → Prop) : afn chacha_Xor.C chacha_Xor.L chacha_Xor.D tab Try.f32 [(Value.agg a0), (Value.agg #[(Value.int .u8 a1_0), (Value.int .u8 a1_1), (Value.int .u8 a1_2), (Value.int .u8 a1_3), (Value.int .u8 a1_4), (Value.int .u8 a1_5), (Value.int .u8 a1_6), (Value.int .u8 a1_7), (Value.int .u8 a1_8), (Value.int .u8 a1_9), (Value.int .u8 a1_10), (Value.int .u8 a1_11)]), (Value.int .u32 a2), (Value.slice a3 a3n a3c)] w K = chacha_Xor.f a0 a1_0 a1_1 a1_2 a1_3 a1_4 a1_5 a1_6 a1_7 a1_8 a1_9 a1_10 a1_11 a2 a3 a3n a3c w (fun r0 r0n r0c w => K (Value.slice r0 r0n r0c) w) := by kernel_rfl
theorem chacha_Xor.ok : FSound Try.prog 32 chacha_Xor.h := by
  intro args w K h
  unfold chacha_Xor.h chacha_Xor.H at h
  split at h
  ·
    replace h := vA_ok h
    obtain ⟨a0, rfl, h⟩ := h
    replace h := vT_ok h
    obtain ⟨l, rfl, h⟩ := h
    replace h := cI_ok h; obtain ⟨a1_0, l, rfl, h⟩ := h
    replace h := cI_ok h; obtain ⟨a1_1, l, rfl, h⟩ := h
    replace h := cI_ok h; obtain ⟨a1_2, l, rfl, h⟩ := h
    replace h := cI_ok h; obtain ⟨a1_3, l, rfl, h⟩ := h
    replace h := cI_ok h; obtain ⟨a1_4, l, rfl, h⟩ := h
    replace h := cI_ok h; obtain ⟨a1_5, l, rfl, h⟩ := h
    replace h := cI_ok h; obtain ⟨a1_6, l, rfl, h⟩ := h
    replace h := cI_ok h; obtain ⟨a1_7, l, rfl, h⟩ := h
    replace h := cI_ok h; obtain ⟨a1_8, l, rfl, h⟩ := h
    replace h := cI_ok h; obtain ⟨a1_9, l, rfl, h⟩ := h
    replace h := cI_ok h; obtain ⟨a1_10, l, rfl, h⟩ := h
    replace h := cI_ok h; obtain ⟨a1_11, l, rfl, h⟩ := h
    replace h := cE_ok h; obtain ⟨rfl, h⟩ := h
    replace h := vI_ok h
    obtain ⟨a2, rfl, h⟩ := h
    replace h := vL_ok h
    obtain ⟨a3, a3n, a3c, rfl, h⟩ := h
    refine ⟨by kernel_rfl, fn_ok tab_ok chacha_Xor.C_ok (L := chacha_Xor.L) (D := chacha_Xor.D) Try.func32 chacha_Xor.hb (by kernel_rfl) (by rw [chacha_Xor.c_loops]; exact lcons chacha_Xor.lok3 (lnil)) (Nat.le_of_ble_eq_true (by kernel_rfl)) ?_⟩
    rw [chacha_Xor.eq]
    exact h
  · exact h.elim
/-! ### valise/valiseref26.Xor: function 33 -/
def ref26_Xor.l4 : Nat → Int → Option Addr → Nat → Nat → Addr → Addr → Option Addr → Nat → Nat → Addr → Int → World → (Option Addr → Nat → Nat → World → Prop) → Prop
  | 0, _, _, _, _, _, _, _, _, _, _, _, _, _ => False
  | N + 1, y2, y3, y3n, y3c, y4, y5, y9, y9n, y9c, y10, y11, w, K0 =>
    bif (decide (y11 < ((y3n : Nat) : Int))) then
      let J_33 := fun  (w : World) =>
        ((sm y3 fun p_28 =>
        if 0 ≤ (y11 : Int) ∧ (y11 : Int) < ((y3n : Nat) : Int) then
        ldI .u8 (p_28.add (Int.toNat y11)) w.drew fun x33_29 =>
        if 0 ≤ ((Int.tmod y11 64) : Int) ∧ ((Int.tmod y11 64) : Int) < ((64 : Nat) : Int) then
        ldI .u8 (y10.add (Int.toNat (Int.tmod y11 64))) w.drew fun x37_30 =>
        newC 5 [(Value.int .u8 (bxor .u8 x33_29 x37_30))] w.drew fun a39_31 w =>
        (World.cell? w (y10.add (Int.toNat (Int.tmod y11 64))) = some (.int .u8 x37_30)) ∧
        ((World.cell? w (p_28.add (Int.toNat y11)) = some (.int .u8 x33_29)) ∧
        (appL 5 1 1 [(Value.int .u8 0)] y9 y9n y9c (some a39_31) 1 1 w fun a40_32 a40_32n a40_32c w =>
        (World.cell? w (y10.add (Int.toNat (Int.tmod y11 64))) = some (.int .u8 x37_30)) ∧
        ((World.cell? w (p_28.add (Int.toNat y11)) = some (.int .u8 x33_29)) ∧
        (let v11_34 := (IntKind.wrap .i64 (y11 + 1))
        ref26_Xor.l4 N y2 y3 y3n y3c y4 y5 a40_32 a40_32n a40_32c y10 v11_34 w K0))))
        else False
        else False) : Prop)
      bif ((Int.tmod y11 64) == 0) then
        ldA y4 32 w fun x21_14 =>
        ldI .u8 (y5.add 0) w fun x27_15 =>
        ldI .u8 (y5.add 1) w fun x27_16 =>
        ldI .u8 (y5.add 2) w fun x27_17 =>
        ldI .u8 (y5.add 3) w fun x27_18 =>
        ldI .u8 (y5.add 4) w fun x27_19 =>
        ldI .u8 (y5.add 5) w fun x27_20 =>
        ldI .u8 (y5.add 6) w fun x27_21 =>
        ldI .u8 (y5.add 7) w fun x27_22 =>
        ldI .u8 (y5.add 8) w fun x27_23 =>
        ldI .u8 (y5.add 9) w fun x27_24 =>
        ldI .u8 (y5.add 10) w fun x27_25 =>
        ldI .u8 (y5.add 11) w fun x27_26 =>
        ref26_Block.f x21_14.toArray (IntKind.wrap .u32 (y2 + (IntKind.wrap .u32 (IntKind.wrap .i64 (Int.tdiv y11 64))))) x27_15 x27_16 x27_17 x27_18 x27_19 x27_20 x27_21 x27_22 x27_23 x27_24 x27_25 x27_26 w fun r28_27 w =>
        if (r28_27).size = 64 then
        stCs y10 (r28_27).toList 0 w fun w =>
        J_33 w
        else False
      else
        J_33 w
    else
      K0 y9 y9n y9c w

def ref26_Xor.f (a0 : Array Value) (a1_0 : Int) (a1_1 : Int) (a1_2 : Int) (a1_3 : Int) (a1_4 : Int) (a1_5 : Int) (a1_6 : Int) (a1_7 : Int) (a1_8 : Int) (a1_9 : Int) (a1_10 : Int) (a1_11 : Int) (a2 : Int) (a3 : Option Addr) (a3n : Nat) (a3c : Nat) (w : World) (K : Option Addr → Nat → Nat → World → Prop) : Prop :=
  newC 40 (a0).toList w fun a4_2 w =>
  newC 41 [(Value.int .u8 a1_0), (Value.int .u8 a1_1), (Value.int .u8 a1_2), (Value.int .u8 a1_3), (Value.int .u8 a1_4), (Value.int .u8 a1_5), (Value.int .u8 a1_6), (Value.int .u8 a1_7), (Value.int .u8 a1_8), (Value.int .u8 a1_9), (Value.int .u8 a1_10), (Value.int .u8 a1_11)] w fun a5_3 w =>
  newC 45 (List.replicate 64 (Value.int .u8 0)) w fun a10_6 w =>
  ∃ N_35 : Nat, ref26_Xor.l4 N_35 a2 a3 a3n a3c a4_2 a5_3 none 0 0 a10_6 0 w
  (fun o9_36 o9_36n o9_36c w =>
    K o9_36 o9_36n o9_36c w)
def ref26_Xor.H (F : type_of% @ref26_Xor.f) : Hf := fun args w K => match args with
  | [v0, v1, v2, v3] => vA v0 fun a0 => vT v1 fun l => cI .u8 l fun a1_0 l => cI .u8 l fun a1_1 l => cI .u8 l fun a1_2 l => cI .u8 l fun a1_3 l => cI .u8 l fun a1_4 l => cI .u8 l fun a1_5 l => cI .u8 l fun a1_6 l => cI .u8 l fun a1_7 l => cI .u8 l fun a1_8 l => cI .u8 l fun a1_9 l => cI .u8 l fun a1_10 l => cI .u8 l fun a1_11 l => cE l <| vI .u32 v2 fun a2 => vL v3 fun a3 a3n a3c => F a0 a1_0 a1_1 a1_2 a1_3 a1_4 a1_5 a1_6 a1_7 a1_8 a1_9 a1_10 a1_11 a2 a3 a3n a3c w (fun r0 r0n r0c w => K (Value.slice r0 r0n r0c) w)
  | _ => False
def ref26_Xor.h : Hf := ref26_Xor.H @ref26_Xor.f
def ref26_Xor.C : Hd := hcons 30 ref26_Block.h (hnil)
theorem ref26_Xor.C_ok : CSound Try.prog ref26_Xor.C := hcons_ok ref26_Block.ok (hnil_ok)
def ref26_Xor.D : Nat → Plan := fun i => (match Nat.beq i 8 with | true => .take 0 (.take 1 (.take 2 (.take 3 (.take 4 (.take 5 (.take 6 (.take 7 (.take 8 (.take 9 (.eff 10 (.eff 11 (.take 12 (.done))))))))))))) | false => .done)
noncomputable def ref26_Xor.c : Code := Try.f33.body.getD .skip
theorem ref26_Xor.hb : Try.f33.body = some ref26_Xor.c := by kernel_rfl
noncomputable def ref26_Xor.b0 : Code := (loopsOf ref26_Xor.c).getD 0 .skip
theorem ref26_Xor.b0_loops : loopsOf ref26_Xor.b0 = [] := by kernel_rfl
theorem ref26_Xor.c_loops : loopsOf ref26_Xor.c = [ref26_Xor.b0] := by kernel_rfl
def ref26_Xor.hn4 (N : Nat) (f : Fr) (w : World) (K : AExit → Fr → World → Prop) : Prop :=
  gN f 42 <| gI .u32 f 2 fun y2 => gL f 3 fun y3 y3n y3c => gQ f 4 fun y4 => gQ f 5 fun y5 => gL f 9 fun y9 y9n y9c => gQ f 10 fun y10 => gI .i64 f 11 fun y11 => ref26_Xor.l4 N y2 y3 y3n y3c y4 y5 y9 y9n y9c y10 y11 w (fun o9 o9n o9c w => K (.exit 0) [none, none, none, none, none, none, none, none, none, some (Value.slice o9 o9n o9c), none, none, none, none, none, none, none, none, none, none, none, none, none, none, none, none, none, none, none, none, none, none, none, none, none, none, none, none, none, none, none, none] w)
def ref26_Xor.hx4 : AExit → Fr → World → (AExit → Fr → World → Prop) → Prop := fun e f w K => match e with
  | .normal => False
  | .exit i => (match Nat.beq i 0 with | true => gN f 42 <| gL f 9 fun o9 o9n o9c => K (.exit 0) [none, none, none, none, none, none, none, none, none, some (Value.slice o9 o9n o9c), none, none, none, none, none, none, none, none, none, none, none, none, none, none, none, none, none, none, none, none, none, none, none, none, none, none, none, none, none, none, none, none] w | false => False)
  | .ret => False
def ref26_Xor.L : LHd := fun l f w K => (match Nat.beq l 4 with | true => ∃ N, ref26_Xor.hn4 N f w K | false => False)
theorem ref26_Xor.le4 (N : Nat) (y2 : Int) (y3 : Option Addr) (y3n : Nat) (y3c : Nat) (y4 : Addr) (y5 : Addr) (y9 : Option Addr) (y9n : Nat) (y9c : Nat) (y10 : Addr) (y11 : Int) (w : World) (K : AExit → Fr → World → Prop) : awp ref26_Xor.C ref26_Xor.L ref26_Xor.D tab ref26_Xor.b0 (lpost ref26_Xor.hn4 ref26_Xor.hx4 N K) [none, none, some (Value.int .u32 y2), some (Value.slice y3 y3n y3c), some (Value.pointer (some y4)), some (Value.pointer (some y5)), none, none, none, some (Value.slice y9 y9n y9c), some (Value.pointer (some y10)), some (Value.int .i64 y11), none, none, none, none, none, none, none, none, none, none, none, none, none, none, none, none, none, none, none, none, none, none, none, none, none, none, none, none, none, none] w = ref26_Xor.l4 (N + 1) y2 y3 y3n y3c y4 y5 y9 y9n y9c y10 y11 w (fun o9 o9n o9c w => K (.exit 0) [none, none, none, none, none, none, none, none, none, some (Value.slice o9 o9n o9c), none, none, none, none, none, none, none, none, none, none, none, none, none, none, none, none, none, none, none, none, none, none, none, none, none, none, none, none, none, none, none, none] w) := by kernel_rfl
theorem ref26_Xor.lok4 : LoopOk Try.prog ref26_Xor.L ref26_Xor.b0 := by
  refine loop_ok tab_ok ref26_Xor.C_ok (D := ref26_Xor.D) (ref26_Xor.hn4) (ref26_Xor.hx4) (by kernel_rfl) (by rw [ref26_Xor.b0_loops]; exact lnil) ?_ ?_ ?_ ?_
  · intro f w K h
    unfold ref26_Xor.hn4 at h
    obtain ⟨hlen, h⟩ := gN_ok h
    obtain ⟨y2, h2, h⟩ := gI_ok h
    obtain ⟨y3, y3n, y3c, h3, h⟩ := gL_ok h
    obtain ⟨y4, h4, h⟩ := gQ_ok h
    obtain ⟨y5, h5, h⟩ := gQ_ok h
    obtain ⟨y9, y9n, y9c, h9, h⟩ := gL_ok h
    obtain ⟨y10, h10, h⟩ := gQ_ok h
    obtain ⟨y11, h11, h⟩ := gI_ok h
    exact h
  · intro N f w K h
    unfold ref26_Xor.hn4 at h
    obtain ⟨hlen, h⟩ := gN_ok h
    obtain ⟨y2, h2, h⟩ := gI_ok h
    obtain ⟨y3, y3n, y3c, h3, h⟩ := gL_ok h
    obtain ⟨y4, h4, h⟩ := gQ_ok h
    obtain ⟨y5, h5, h⟩ := gQ_ok h
    obtain ⟨y9, y9n, y9c, h9, h⟩ := gL_ok h
    obtain ⟨y10, h10, h⟩ := gQ_ok h
    obtain ⟨y11, h11, h⟩ := gI_ok h
    refine ⟨[none, none, some (Value.int .u32 y2), some (Value.slice y3 y3n y3c), some (Value.pointer (some y4)), some (Value.pointer (some y5)), none, none, none, some (Value.slice y9 y9n y9c), some (Value.pointer (some y10)), some (Value.int .i64 y11), none, none, none, none, none, none, none, none, none, none, none, none, none, none, none, none, none, none, none, none, none, none, none, none, none, none, none, none, none, none], hlen, ⟨h2, h3, h4, h5, h9, h10, h11, trivial⟩, ?_⟩
    rw [ref26_Xor.le4]
    exact h
  · intro e f w K h
    cases e with
    | normal => exact h.elim
    | exit i =>
      unfold ref26_Xor.hx4 at h
      simp only at h
      split at h
      · rename_i hb
        obtain rfl := Nat.eq_of_beq_eq_true hb
        obtain ⟨hlen, h⟩ := gN_ok h
        obtain ⟨o9, o9n, o9c, h9, h⟩ := gL_ok h
        exact ⟨[none, none, none, none, none, none, none, none, none, some (Value.slice o9 o9n o9c), none, none, none, none, none, none, none, none, none, none, none, none, none, none, none, none, none, none, none, none, none, none, none, none, none, none, none, none, none, none, none, none], hlen, ⟨h9, trivial⟩, h⟩
      · exact (show False from h).elim
    | ret =>
      exact (show False from h).elim
  · intro f w K h
    have e : lid ref26_Xor.b0 = 4 := by kernel_rfl
    rw [e] at h
    exact h
theorem ref26_Xor.eq (a0 : Array Value) (a1_0 : Int) (a1_1 : Int) (a1_2 : Int) (a1_3 : Int) (a1_4 : Int) (a1_5 : Int) (a1_6 : Int) (a1_7 : Int) (a1_8 : Int) (a1_9 : Int) (a1_10 : Int) (a1_11 : Int) (a2 : Int) (a3 : Option Addr) (a3n : Nat) (a3c : Nat) (w : World) (K : Value → World → Prop) : afn ref26_Xor.C ref26_Xor.L ref26_Xor.D tab Try.f33 [(Value.agg a0), (Value.agg #[(Value.int .u8 a1_0), (Value.int .u8 a1_1), (Value.int .u8 a1_2), (Value.int .u8 a1_3), (Value.int .u8 a1_4), (Value.int .u8 a1_5), (Value.int .u8 a1_6), (Value.int .u8 a1_7), (Value.int .u8 a1_8), (Value.int .u8 a1_9), (Value.int .u8 a1_10), (Value.int .u8 a1_11)]), (Value.int .u32 a2), (Value.slice a3 a3n a3c)] w K = ref26_Xor.f a0 a1_0 a1_1 a1_2 a1_3 a1_4 a1_5 a1_6 a1_7 a1_8 a1_9 a1_10 a1_11 a2 a3 a3n a3c w (fun r0 r0n r0c w => K (Value.slice r0 r0n r0c) w) := by kernel_rfl
theorem ref26_Xor.ok : FSound Try.prog 33 ref26_Xor.h := by
  intro args w K h
  unfold ref26_Xor.h ref26_Xor.H at h
  split at h
  ·
    replace h := vA_ok h
    obtain ⟨a0, rfl, h⟩ := h
    replace h := vT_ok h
    obtain ⟨l, rfl, h⟩ := h
    replace h := cI_ok h; obtain ⟨a1_0, l, rfl, h⟩ := h
    replace h := cI_ok h; obtain ⟨a1_1, l, rfl, h⟩ := h
    replace h := cI_ok h; obtain ⟨a1_2, l, rfl, h⟩ := h
    replace h := cI_ok h; obtain ⟨a1_3, l, rfl, h⟩ := h
    replace h := cI_ok h; obtain ⟨a1_4, l, rfl, h⟩ := h
    replace h := cI_ok h; obtain ⟨a1_5, l, rfl, h⟩ := h
    replace h := cI_ok h; obtain ⟨a1_6, l, rfl, h⟩ := h
    replace h := cI_ok h; obtain ⟨a1_7, l, rfl, h⟩ := h
    replace h := cI_ok h; obtain ⟨a1_8, l, rfl, h⟩ := h
    replace h := cI_ok h; obtain ⟨a1_9, l, rfl, h⟩ := h
    replace h := cI_ok h; obtain ⟨a1_10, l, rfl, h⟩ := h
    replace h := cI_ok h; obtain ⟨a1_11, l, rfl, h⟩ := h
    replace h := cE_ok h; obtain ⟨rfl, h⟩ := h
    replace h := vI_ok h
    obtain ⟨a2, rfl, h⟩ := h
    replace h := vL_ok h
    obtain ⟨a3, a3n, a3c, rfl, h⟩ := h
    refine ⟨by kernel_rfl, fn_ok tab_ok ref26_Xor.C_ok (L := ref26_Xor.L) (D := ref26_Xor.D) Try.func33 ref26_Xor.hb (by kernel_rfl) (by rw [ref26_Xor.c_loops]; exact lcons ref26_Xor.lok4 (lnil)) (Nat.le_of_ble_eq_true (by kernel_rfl)) ?_⟩
    rw [ref26_Xor.eq]
    exact h
  · exact h.elim
/-! ### valise/valisehelp.Bytes: function 31 -/
def help_Bytes.f (a0 : Option Addr) (a0n : Nat) (a0c : Nat) (a1 : Option Addr) (a1n : Nat) (a1c : Nat) (w : World) (K : Bool → World → Prop) : Prop :=
  strL a0 a0n a0c w fun s_3 =>
  strL a1 a1n a1c w fun s_4 =>
  let v4_5 := (s_3.toList == s_4.toList)
  K v4_5 w
def help_Bytes.H (F : type_of% @help_Bytes.f) : Hf := fun args w K => match args with
  | [v0, v1] => vL v0 fun a0 a0n a0c => vL v1 fun a1 a1n a1c => F a0 a0n a0c a1 a1n a1c w (fun r0 w => K (Value.bool r0) w)
  | _ => False
def help_Bytes.h : Hf := help_Bytes.H @help_Bytes.f
def help_Bytes.C : Hd := hnil
theorem help_Bytes.C_ok : CSound Try.prog help_Bytes.C := hnil_ok
def help_Bytes.D : Nat → Plan := fun i => .done
noncomputable def help_Bytes.c : Code := Try.f31.body.getD .skip
theorem help_Bytes.hb : Try.f31.body = some help_Bytes.c := by kernel_rfl
theorem help_Bytes.c_loops : loopsOf help_Bytes.c = [] := by kernel_rfl
def help_Bytes.L : LHd := fun l f w K => False
theorem help_Bytes.eq (a0 : Option Addr) (a0n : Nat) (a0c : Nat) (a1 : Option Addr) (a1n : Nat) (a1c : Nat) (w : World) (K : Value → World → Prop) : afn help_Bytes.C help_Bytes.L help_Bytes.D tab Try.f31 [(Value.slice a0 a0n a0c), (Value.slice a1 a1n a1c)] w K = help_Bytes.f a0 a0n a0c a1 a1n a1c w (fun r0 w => K (Value.bool r0) w) := by kernel_rfl
theorem help_Bytes.ok : FSound Try.prog 31 help_Bytes.h := by
  intro args w K h
  unfold help_Bytes.h help_Bytes.H at h
  split at h
  ·
    replace h := vL_ok h
    obtain ⟨a0, a0n, a0c, rfl, h⟩ := h
    replace h := vL_ok h
    obtain ⟨a1, a1n, a1c, rfl, h⟩ := h
    refine ⟨by kernel_rfl, fn_ok tab_ok help_Bytes.C_ok (L := help_Bytes.L) (D := help_Bytes.D) Try.func31 help_Bytes.hb (by kernel_rfl) (by rw [help_Bytes.c_loops]; exact lnil) (Nat.le_of_ble_eq_true (by kernel_rfl)) ?_⟩
    rw [help_Bytes.eq]
    exact h
  · exact h.elim
/-! ### valise/lms.New: function 34 -/
def lms_New.f  (w : World) (K : Option Addr → World → Prop) : Prop :=
  newC 76 [(Value.int .i64 0), (Value.int .i64 0), (Value.int .i64 0), (Value.int .i64 0), (Value.int .i64 0), (Value.int .i64 0), (Value.int .i64 0), (Value.int .i64 0), (Value.int .i32 0), (Value.int .i32 0), (Value.int .i32 0), (Value.int .i32 0), (Value.int .i32 0), (Value.int .i32 0), (Value.int .i32 0), (Value.int .i32 0)] w fun a2_3 w =>
  K (some a2_3) w
def lms_New.H (F : type_of% @lms_New.f) : Hf := fun args w K => match args with
  | [] =>  F  w (fun r0 w => K (Value.pointer r0) w)
  | _ => False
def lms_New.h : Hf := lms_New.H @lms_New.f
def lms_New.C : Hd := hnil
theorem lms_New.C_ok : CSound Try.prog lms_New.C := hnil_ok
def lms_New.D : Nat → Plan := fun i => .done
noncomputable def lms_New.c : Code := Try.f34.body.getD .skip
theorem lms_New.hb : Try.f34.body = some lms_New.c := by kernel_rfl
theorem lms_New.c_loops : loopsOf lms_New.c = [] := by kernel_rfl
def lms_New.L : LHd := fun l f w K => False
theorem lms_New.eq  (w : World) (K : Value → World → Prop) : afn lms_New.C lms_New.L lms_New.D tab Try.f34 [] w K = lms_New.f  w (fun r0 w => K (Value.pointer r0) w) := by kernel_rfl
theorem lms_New.ok : FSound Try.prog 34 lms_New.h := by
  intro args w K h
  unfold lms_New.h lms_New.H at h
  split at h
  ·
    refine ⟨by kernel_rfl, fn_ok tab_ok lms_New.C_ok (L := lms_New.L) (D := lms_New.D) Try.func34 lms_New.hb (by kernel_rfl) (by rw [lms_New.c_loops]; exact lnil) (Nat.le_of_ble_eq_true (by kernel_rfl)) ?_⟩
    rw [lms_New.eq]
    exact h
  · exact h.elim
/-! ### (*valise/lms.Filter).Guess: function 36 -/
def lms_Filter_Guess.l5 : Nat → Option Addr → Int → Int → Int → Int → Int → Int → Int → Int → Int → Int → World → (Int → World → Prop) → Prop
  | 0, _, _, _, _, _, _, _, _, _, _, _, _, _ => False
  | N + 1, y0, y3, y12_0, y12_1, y12_2, y12_3, y12_4, y12_5, y12_6, y12_7, y13, w, K0 =>
    bif (decide (y13 < 8)) then
      if 0 ≤ (y13 : Int) ∧ (y13 : Int) < ((8 : Nat) : Int) then
      ixI .i64 #[(Value.int .i64 y12_0), (Value.int .i64 y12_1), (Value.int .i64 y12_2), (Value.int .i64 y12_3), (Value.int .i64 y12_4), (Value.int .i64 y12_5), (Value.int .i64 y12_6), (Value.int .i64 y12_7)] y13 fun x_21 =>
      sm y0 fun p_22 =>
      if 0 ≤ (y13 : Int) ∧ (y13 : Int) < ((8 : Nat) : Int) then
      ldI .i32 ((p_22.add 8).add (Int.toNat y13)) w fun x25_23 =>
      let v3_24 := (IntKind.wrap .i64 (y3 + (IntKind.wrap .i64 (x_21 * (IntKind.wrap .i64 x25_23)))))
      lms_Filter_Guess.l5 N y0 v3_24 y12_0 y12_1 y12_2 y12_3 y12_4 y12_5 y12_6 y12_7 (IntKind.wrap .i64 (y13 + 1)) w K0
      else False
      else False
    else
      K0 y3 w

def lms_Filter_Guess.f (a0 : Option Addr) (w : World) (K : Int → World → Prop) : Prop :=
  bif a0.isNone then
    K 0 w
  else
    sm a0 fun p_8 =>
    ldI .i64 (p_8.add 0) w fun x12_9 =>
    ldI .i64 (p_8.add 1) w fun x12_10 =>
    ldI .i64 (p_8.add 2) w fun x12_11 =>
    ldI .i64 (p_8.add 3) w fun x12_12 =>
    ldI .i64 (p_8.add 4) w fun x12_13 =>
    ldI .i64 (p_8.add 5) w fun x12_14 =>
    ldI .i64 (p_8.add 6) w fun x12_15 =>
    ldI .i64 (p_8.add 7) w fun x12_16 =>
    ∃ N_25 : Nat, lms_Filter_Guess.l5 N_25 a0 0 x12_9 x12_10 x12_11 x12_12 x12_13 x12_14 x12_15 x12_16 0 w
    (fun o3_26 w =>
      let v2_28 := (IntKind.wrap .i32 (shr .i64 o3_26 8))
      K v2_28 w)
def lms_Filter_Guess.H (F : type_of% @lms_Filter_Guess.f) : Hf := fun args w K => match args with
  | [v0] => vP v0 fun a0 => F a0 w (fun r0 w => K (Value.int .i32 r0) w)
  | _ => False
def lms_Filter_Guess.h : Hf := lms_Filter_Guess.H @lms_Filter_Guess.f
def lms_Filter_Guess.C : Hd := hnil
theorem lms_Filter_Guess.C_ok : CSound Try.prog lms_Filter_Guess.C := hnil_ok
def lms_Filter_Guess.D : Nat → Plan := fun i => .done
noncomputable def lms_Filter_Guess.c : Code := Try.f36.body.getD .skip
theorem lms_Filter_Guess.hb : Try.f36.body = some lms_Filter_Guess.c := by kernel_rfl
noncomputable def lms_Filter_Guess.b0 : Code := (loopsOf lms_Filter_Guess.c).getD 0 .skip
theorem lms_Filter_Guess.b0_loops : loopsOf lms_Filter_Guess.b0 = [] := by kernel_rfl
theorem lms_Filter_Guess.c_loops : loopsOf lms_Filter_Guess.c = [lms_Filter_Guess.b0] := by kernel_rfl
def lms_Filter_Guess.hn5 (N : Nat) (f : Fr) (w : World) (K : AExit → Fr → World → Prop) : Prop :=
  gN f 33 <| gP f 0 fun y0 => gI .i64 f 3 fun y3 => gT f 12 fun l => cI .i64 l fun y12_0 l => cI .i64 l fun y12_1 l => cI .i64 l fun y12_2 l => cI .i64 l fun y12_3 l => cI .i64 l fun y12_4 l => cI .i64 l fun y12_5 l => cI .i64 l fun y12_6 l => cI .i64 l fun y12_7 l => cE l <| gI .i64 f 13 fun y13 => lms_Filter_Guess.l5 N y0 y3 y12_0 y12_1 y12_2 y12_3 y12_4 y12_5 y12_6 y12_7 y13 w (fun o3 w => K (.exit 0) [none, none, none, some (Value.int .i64 o3), none, none, none, none, none, none, none, none, none, none, none, none, none, none, none, none, none, none, none, none, none, none, none, none, none, none, none, none, none] w)
def lms_Filter_Guess.hx5 : AExit → Fr → World → (AExit → Fr → World → Prop) → Prop := fun e f w K => match e with
  | .normal => False
  | .exit i => (match Nat.beq i 0 with | true => gN f 33 <| gI .i64 f 3 fun o3 => K (.exit 0) [none, none, none, some (Value.int .i64 o3), none, none, none, none, none, none, none, none, none, none, none, none, none, none, none, none, none, none, none, none, none, none, none, none, none, none, none, none, none] w | false => False)
  | .ret => False
def lms_Filter_Guess.L : LHd := fun l f w K => (match Nat.beq l 5 with | true => ∃ N, lms_Filter_Guess.hn5 N f w K | false => False)
theorem lms_Filter_Guess.le5 (N : Nat) (y0 : Option Addr) (y3 : Int) (y12_0 : Int) (y12_1 : Int) (y12_2 : Int) (y12_3 : Int) (y12_4 : Int) (y12_5 : Int) (y12_6 : Int) (y12_7 : Int) (y13 : Int) (w : World) (K : AExit → Fr → World → Prop) : awp lms_Filter_Guess.C lms_Filter_Guess.L lms_Filter_Guess.D tab lms_Filter_Guess.b0 (lpost lms_Filter_Guess.hn5 lms_Filter_Guess.hx5 N K) [some (Value.pointer y0), none, none, some (Value.int .i64 y3), none, none, none, none, none, none, none, none, some (Value.agg #[(Value.int .i64 y12_0), (Value.int .i64 y12_1), (Value.int .i64 y12_2), (Value.int .i64 y12_3), (Value.int .i64 y12_4), (Value.int .i64 y12_5), (Value.int .i64 y12_6), (Value.int .i64 y12_7)]), some (Value.int .i64 y13), none, none, none, none, none, none, none, none, none, none, none, none, none, none, none, none, none, none, none] w = lms_Filter_Guess.l5 (N + 1) y0 y3 y12_0 y12_1 y12_2 y12_3 y12_4 y12_5 y12_6 y12_7 y13 w (fun o3 w => K (.exit 0) [none, none, none, some (Value.int .i64 o3), none, none, none, none, none, none, none, none, none, none, none, none, none, none, none, none, none, none, none, none, none, none, none, none, none, none, none, none, none] w) := by kernel_rfl
theorem lms_Filter_Guess.lok5 : LoopOk Try.prog lms_Filter_Guess.L lms_Filter_Guess.b0 := by
  refine loop_ok tab_ok lms_Filter_Guess.C_ok (D := lms_Filter_Guess.D) (lms_Filter_Guess.hn5) (lms_Filter_Guess.hx5) (by kernel_rfl) (by rw [lms_Filter_Guess.b0_loops]; exact lnil) ?_ ?_ ?_ ?_
  · intro f w K h
    unfold lms_Filter_Guess.hn5 at h
    obtain ⟨hlen, h⟩ := gN_ok h
    obtain ⟨y0, h0, h⟩ := gP_ok h
    obtain ⟨y3, h3, h⟩ := gI_ok h
    obtain ⟨l, h12, h⟩ := gT_ok h
    replace h := cI_ok h; obtain ⟨y12_0, l, rfl, h⟩ := h
    replace h := cI_ok h; obtain ⟨y12_1, l, rfl, h⟩ := h
    replace h := cI_ok h; obtain ⟨y12_2, l, rfl, h⟩ := h
    replace h := cI_ok h; obtain ⟨y12_3, l, rfl, h⟩ := h
    replace h := cI_ok h; obtain ⟨y12_4, l, rfl, h⟩ := h
    replace h := cI_ok h; obtain ⟨y12_5, l, rfl, h⟩ := h
    replace h := cI_ok h; obtain ⟨y12_6, l, rfl, h⟩ := h
    replace h := cI_ok h; obtain ⟨y12_7, l, rfl, h⟩ := h
    replace h := cE_ok h; obtain ⟨rfl, h⟩ := h
    obtain ⟨y13, h13, h⟩ := gI_ok h
    exact h
  · intro N f w K h
    unfold lms_Filter_Guess.hn5 at h
    obtain ⟨hlen, h⟩ := gN_ok h
    obtain ⟨y0, h0, h⟩ := gP_ok h
    obtain ⟨y3, h3, h⟩ := gI_ok h
    obtain ⟨l, h12, h⟩ := gT_ok h
    replace h := cI_ok h; obtain ⟨y12_0, l, rfl, h⟩ := h
    replace h := cI_ok h; obtain ⟨y12_1, l, rfl, h⟩ := h
    replace h := cI_ok h; obtain ⟨y12_2, l, rfl, h⟩ := h
    replace h := cI_ok h; obtain ⟨y12_3, l, rfl, h⟩ := h
    replace h := cI_ok h; obtain ⟨y12_4, l, rfl, h⟩ := h
    replace h := cI_ok h; obtain ⟨y12_5, l, rfl, h⟩ := h
    replace h := cI_ok h; obtain ⟨y12_6, l, rfl, h⟩ := h
    replace h := cI_ok h; obtain ⟨y12_7, l, rfl, h⟩ := h
    replace h := cE_ok h; obtain ⟨rfl, h⟩ := h
    obtain ⟨y13, h13, h⟩ := gI_ok h
    refine ⟨[some (Value.pointer y0), none, none, some (Value.int .i64 y3), none, none, none, none, none, none, none, none, some (Value.agg #[(Value.int .i64 y12_0), (Value.int .i64 y12_1), (Value.int .i64 y12_2), (Value.int .i64 y12_3), (Value.int .i64 y12_4), (Value.int .i64 y12_5), (Value.int .i64 y12_6), (Value.int .i64 y12_7)]), some (Value.int .i64 y13), none, none, none, none, none, none, none, none, none, none, none, none, none, none, none, none, none, none, none], hlen, ⟨h0, h3, h12, h13, trivial⟩, ?_⟩
    rw [lms_Filter_Guess.le5]
    exact h
  · intro e f w K h
    cases e with
    | normal => exact h.elim
    | exit i =>
      unfold lms_Filter_Guess.hx5 at h
      simp only at h
      split at h
      · rename_i hb
        obtain rfl := Nat.eq_of_beq_eq_true hb
        obtain ⟨hlen, h⟩ := gN_ok h
        obtain ⟨o3, h3, h⟩ := gI_ok h
        exact ⟨[none, none, none, some (Value.int .i64 o3), none, none, none, none, none, none, none, none, none, none, none, none, none, none, none, none, none, none, none, none, none, none, none, none, none, none, none, none, none], hlen, ⟨h3, trivial⟩, h⟩
      · exact (show False from h).elim
    | ret =>
      exact (show False from h).elim
  · intro f w K h
    have e : lid lms_Filter_Guess.b0 = 5 := by kernel_rfl
    rw [e] at h
    exact h
theorem lms_Filter_Guess.eq (a0 : Option Addr) (w : World) (K : Value → World → Prop) : afn lms_Filter_Guess.C lms_Filter_Guess.L lms_Filter_Guess.D tab Try.f36 [(Value.pointer a0)] w K = lms_Filter_Guess.f a0 w (fun r0 w => K (Value.int .i32 r0) w) := by kernel_rfl
theorem lms_Filter_Guess.ok : FSound Try.prog 36 lms_Filter_Guess.h := by
  intro args w K h
  unfold lms_Filter_Guess.h lms_Filter_Guess.H at h
  split at h
  ·
    replace h := vP_ok h
    obtain ⟨a0, rfl, h⟩ := h
    refine ⟨by kernel_rfl, fn_ok tab_ok lms_Filter_Guess.C_ok (L := lms_Filter_Guess.L) (D := lms_Filter_Guess.D) Try.func36 lms_Filter_Guess.hb (by kernel_rfl) (by rw [lms_Filter_Guess.c_loops]; exact lcons lms_Filter_Guess.lok5 (lnil)) (Nat.le_of_ble_eq_true (by kernel_rfl)) ?_⟩
    rw [lms_Filter_Guess.eq]
    exact h
  · exact h.elim

end Go.Proofs.Ytodicpmedallgaa.G
