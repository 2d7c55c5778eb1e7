/- The table of the functions that the law reaches. No condition. -/
import Derived.Test.YtloekbdlmikkcaaGreatDoorZvF6
import Derived.Test.YtloekbdlmikkcaaGreatDoorZvF7
import Derived.Test.YtloekbdlmikkcaaGreatDoorGlobF
import Derived.Test.YtloekbdlmikkcaaGreatDoorProg
import Derived.KernelRfl
set_option linter.unusedSimpArgs false
set_option linter.unusedVariables false
namespace Go.Proofs.YtloekbdlmikkcaaGreatDoor.D
open Go Go.Zv Go.Zv.G Go.Proofs Go.Proofs.YtloekbdlmikkcaaGreatDoor
set_option maxRecDepth 100000
set_option maxHeartbeats 0
noncomputable def ti3:TI:=⟨.int .i64,1,[.int .i64],[.int .i64 0],[]⟩
noncomputable def ti4:TI:=⟨.bool,1,[.bool],[.bool false],[]⟩
noncomputable def ti9:TI:=⟨.str,1,[.str],[.str []],[]⟩
noncomputable def ti21:TI:=⟨.int .i32,1,[.int .i32],[.int .i32 0],[]⟩
noncomputable def fi64:FnI:=⟨Tryz.f64,codeOf Tryz.f64,[],[],[],[],[]⟩
noncomputable def tys:Tr TI:=(.node (.node (.node .leaf 3 ti3 .leaf) 4 ti4 .leaf) 9 ti9 (.node .leaf 21 ti21 .leaf))
noncomputable def fns:Tr FnI:=(.node .leaf 64 fi64 .leaf)
noncomputable def globT:Tr (List V):=.leaf
noncomputable def qo:Tr (List Nat):=(.node (.node (.node .leaf 44 [0] .leaf) 74 [0] .leaf) 83 [0] (.node (.node .leaf 92 [0] .leaf) 115 [0,2] .leaf))
noncomputable def qp:Tr (List Nat):=(.node (.node .leaf 92 [0] .leaf) 161 [0] .leaf)
noncomputable def qw:Tr Unit:=(.node (.node (.node (.node (.node (.node (.node (.node .leaf 0 () .leaf) 1 () .leaf) 2 () (.node (.node .leaf 3 () .leaf) 4 () .leaf)) 5 () (.node (.node (.node .leaf 6 () .leaf) 7 () .leaf) 8 () (.node (.node .leaf 9 () .leaf) 10 () .leaf))) 11 () (.node (.node (.node (.node .leaf 15 () .leaf) 16 () .leaf) 17 () (.node (.node .leaf 19 () .leaf) 23 () .leaf)) 24 () (.node (.node (.node .leaf 25 () .leaf) 26 () .leaf) 27 () (.node (.node .leaf 28 () .leaf) 31 () .leaf)))) 32 () (.node (.node (.node (.node (.node .leaf 33 () .leaf) 35 () .leaf) 38 () (.node (.node .leaf 39 () .leaf) 40 () .leaf)) 41 () (.node (.node (.node .leaf 46 () .leaf) 47 () .leaf) 48 () (.node (.node .leaf 49 () .leaf) 50 () .leaf))) 51 () (.node (.node (.node (.node .leaf 58 () .leaf) 59 () .leaf) 63 () (.node (.node .leaf 64 () .leaf) 65 () .leaf)) 66 () (.node (.node (.node .leaf 67 () .leaf) 68 () .leaf) 71 () (.node .leaf 72 () .leaf))))) 73 () (.node (.node (.node (.node (.node (.node .leaf 75 () .leaf) 76 () .leaf) 80 () (.node (.node .leaf 82 () .leaf) 85 () .leaf)) 87 () (.node (.node (.node .leaf 88 () .leaf) 89 () .leaf) 90 () (.node (.node .leaf 93 () .leaf) 94 () .leaf))) 101 () (.node (.node (.node (.node .leaf 102 () .leaf) 103 () .leaf) 104 () (.node (.node .leaf 105 () .leaf) 106 () .leaf)) 107 () (.node (.node (.node .leaf 108 () .leaf) 111 () .leaf) 114 () (.node .leaf 116 () .leaf)))) 119 () (.node (.node (.node (.node (.node .leaf 120 () .leaf) 121 () .leaf) 122 () (.node (.node .leaf 123 () .leaf) 124 () .leaf)) 126 () (.node (.node (.node .leaf 127 () .leaf) 128 () .leaf) 129 () (.node (.node .leaf 130 () .leaf) 131 () .leaf))) 132 () (.node (.node (.node (.node .leaf 133 () .leaf) 134 () .leaf) 135 () (.node (.node .leaf 140 () .leaf) 141 () .leaf)) 142 () (.node (.node (.node .leaf 143 () .leaf) 146 () .leaf) 147 () (.node .leaf 148 () .leaf)))))) 149 () (.node (.node (.node (.node (.node (.node (.node .leaf 150 () .leaf) 151 () .leaf) 153 () (.node (.node .leaf 155 () .leaf) 156 () .leaf)) 158 () (.node (.node (.node .leaf 159 () .leaf) 160 () .leaf) 162 () (.node (.node .leaf 163 () .leaf) 164 () .leaf))) 165 () (.node (.node (.node (.node .leaf 166 () .leaf) 167 () .leaf) 168 () (.node (.node .leaf 169 () .leaf) 170 () .leaf)) 171 () (.node (.node (.node .leaf 172 () .leaf) 173 () .leaf) 174 () (.node .leaf 175 () .leaf)))) 176 () (.node (.node (.node (.node (.node .leaf 178 () .leaf) 179 () .leaf) 180 () (.node (.node .leaf 181 () .leaf) 182 () .leaf)) 183 () (.node (.node (.node .leaf 184 () .leaf) 185 () .leaf) 187 () (.node (.node .leaf 188 () .leaf) 189 () .leaf))) 190 () (.node (.node (.node (.node .leaf 192 () .leaf) 193 () .leaf) 194 () (.node (.node .leaf 195 () .leaf) 196 () .leaf)) 197 () (.node (.node (.node .leaf 198 () .leaf) 199 () .leaf) 200 () (.node .leaf 201 () .leaf))))) 202 () (.node (.node (.node (.node (.node (.node .leaf 203 () .leaf) 205 () .leaf) 206 () (.node (.node .leaf 207 () .leaf) 208 () .leaf)) 209 () (.node (.node (.node .leaf 210 () .leaf) 211 () .leaf) 213 () (.node (.node .leaf 214 () .leaf) 215 () .leaf))) 216 () (.node (.node (.node (.node .leaf 217 () .leaf) 218 () .leaf) 219 () (.node (.node .leaf 220 () .leaf) 221 () .leaf)) 222 () (.node (.node (.node .leaf 223 () .leaf) 224 () .leaf) 225 () (.node .leaf 226 () .leaf)))) 227 () (.node (.node (.node (.node (.node .leaf 228 () .leaf) 229 () .leaf) 230 () (.node (.node .leaf 231 () .leaf) 232 () .leaf)) 233 () (.node (.node (.node .leaf 234 () .leaf) 235 () .leaf) 236 () (.node (.node .leaf 239 () .leaf) 240 () .leaf))) 242 () (.node (.node (.node (.node .leaf 243 () .leaf) 244 () .leaf) 245 () (.node (.node .leaf 246 () .leaf) 247 () .leaf)) 248 () (.node (.node (.node .leaf 249 () .leaf) 250 () .leaf) 251 () (.node .leaf 252 () .leaf)))))))
noncomputable def eqsT:Tr Unit:=.leaf
noncomputable def u8sT:Tr Unit:=.leaf
noncomputable def libsT:Tr (Nat×Nat):=.leaf
noncomputable def tab:Tab:=⟨tys,globT,fns,qo,qp,qw,eqsT,u8sT,libsT⟩
theorem ty3:TyOK Tryz.prog 3 ti3:=qbs (by kernel_rfl)
theorem ty4:TyOK Tryz.prog 4 ti4:=qbs (by kernel_rfl)
theorem ty9:TyOK Tryz.prog 9 ti9:=qbs (by kernel_rfl)
theorem ty21:TyOK Tryz.prog 21 ti21:=qbs (by kernel_rfl)
theorem fn64:FnOK Tryz.prog 64 fi64:=⟨Tryz.func64,by kernel_rfl,by kernel_rfl,by kernel_rfl⟩
theorem tys_ok:tys.All (TyOK Tryz.prog):=⟨⟨⟨trivial,ty3,trivial⟩,ty4,trivial⟩,ty9,⟨trivial,ty21,trivial⟩⟩
theorem fns_ok:fns.All (FnOK Tryz.prog):=⟨trivial,fn64,trivial⟩
theorem u8s_ok:u8sT.All fun t _=>∃ e ie,Tryz.prog.underlying t=some (.slice e)∧Tryz.prog.underlying e=some (.int .u8)∧Tryz.prog.info? e=some ie∧ie.size=1:=trivial
theorem eqs_ok:eqsT.All fun t _=>∀ i,tys.get t=some i→EqOK Tryz.prog t i:=trivial
theorem libs_ok:libsT.All fun t x=>∃ ti z,Tryz.prog.info? t=some ti∧ti.zero=some z∧qlk x.1 z:=trivial
theorem tab_ok:TabOK Tryz.prog tab:=⟨tys_ok,eqs_ok,u8s_ok,libs_ok,fns_ok⟩
theorem dec_at:((List.range 100).all fun i=>match callD tab (fun _ _=>none) 6 6 64 [.int .i64 i] with
 | some (.str s,[.ud])=>s==dig10 i
 | _=>false)=true:=by kernel_rfl
theorem does_mono {f:Nat} {args outs:List V} {res:V} {G:Nat→Option (List V)} (h:Does Tryz.prog tab.glob.get f args res outs):Does Tryz.prog G f args res outs :=
 fun S w vs O hG=>h S w vs O ⟨hG.rep,hG.nodup,hG.apart,hG.low,fun g cs hg=>by cases hg⟩
theorem decimal_ok {G:Nat→Option (List V)} {args outs:List V} {res:V} (h:qhd args=some (res,outs)):Does Tryz.prog G 64 args res outs:=by
 unfold qhd at h
 split at h
 ·
  rename_i n
  split at h
  ·
   rename_i hn
   simp only[Option.some.injEq,Prod.mk.injEq] at h
   obtain ⟨rfl,rfl⟩:=h
   obtain ⟨m,rfl⟩:=Int.eq_ofNat_of_zero_le hn.1
   have h1:=List.all_eq_true.1 dec_at m (List.mem_range.2 (by omega))
   refine does_mono (qou (T:=tab) (prims:=fun _ _=>none) tab_ok (fun _ _ _ _ h=>by cases h) (by kernel_rfl) (fuel:=6) 6 _ _ _ _ ?_)
   split at h1
   ·
    rename_i s hs
    rw[Int.toNat_natCast]
    rw[show dig10 m=s from (eq_of_beq h1).symm]
    exact hs
   ·
    cases h1
  ·
   cases h
 ·
  cases h
end Go.Proofs.YtloekbdlmikkcaaGreatDoor.D
