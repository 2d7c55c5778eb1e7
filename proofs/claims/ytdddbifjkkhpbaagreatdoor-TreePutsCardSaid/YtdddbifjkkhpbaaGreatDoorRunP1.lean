/- Functions of the program, run on plain values: what their plain functions say comes of them. No condition. -/
import Derived.Test.YtdddbifjkkhpbaaGreatDoorPrimsP
namespace Go.Proofs.YtdddbifjkkhpbaaGreatDoor.G
open Go Go.Zv Go.Proofs Go.Proofs.YtdddbifjkkhpbaaGreatDoor
set_option maxRecDepth 100000
set_option maxHeartbeats 0
set_option linter.unusedSimpArgs false
set_option linter.unusedVariables false
attribute [local simp ↓] Go.Zv.into_gv Go.Zv.stale_gv Go.Zv.refAt_gv Go.Zv.rootIn_gv Go.Zv.hits_gv Go.Zv.dropRoot_nil Go.Zv.dropRoot_cons Go.Zv.drop_nil Go.Zv.drop_cons Go.Zv.dropRef_nil Go.Zv.dropRef_cons Go.Zv.runOps Go.Zv.gstep Go.Zv.evOpF cond_eq_ite Go.Zv.ev_assign Go.Zv.ev_move Go.Zv.ev_binOp Go.Zv.ev_pick Go.Zv.ev_call Go.Zv.ev_extract Go.Zv.ev_load Go.Zv.ev_fieldAddr Go.Zv.ev_indexAddr Go.Zv.ev_convert Go.Zv.ev_unOp Go.Zv.ev_slice Go.Zv.ev_index Go.Zv.ev_box Go.Zv.ev_build Go.Zv.ev_buildSlice Go.Zv.ev_makeSlice Go.Zv.ev_store Go.Zv.ev_alloc Go.Zv.ev_makeFunc Go.Zv.ev_field Go.Zv.ev_nilCheck Go.Zv.evBuiltin Go.Zv.appendSrc Go.Zv.appendTo Go.Zv.slen Go.Zv.load Go.Zv.coerce Go.Zv.evBin Go.Zv.evCall Go.Zv.evArgs Go.Zv.resAll Go.Zv.resOne Go.Zv.evConvert Go.Zv.evSlice Go.Zv.cutAt Go.Zv.bnd Go.Zv.share Go.Zv.reads Go.Zv.place Go.Zv.readArgs Go.Zv.readArg Go.Zv.loadCell Go.Zv.cellVal Go.Zv.storeOne Go.Zv.store Go.Zv.fillCells Go.Zv.partCells Go.Zv.copyTo Go.Zv.evCaps
attribute [local simp] Go.Zv.flag Go.Zv.tupOf Go.Zv.opnd Go.Zv.gt Go.Zv.put Go.Zv.setT Go.Zv.into Go.Zv.into1 Go.Zv.nilTo Go.Zv.ofConst Go.Zv.ofScalar Go.Zv.kindOf Go.Zv.idxOf Go.Zv.asInt Go.Zv.asBool Go.Zv.asStr Go.Zv.asSl Go.Zv.simple Go.Zv.linkFree Go.Zv.pack Go.Zv.maskOuts Go.Zv.cut Go.Zv.TK.isAgg Go.Zv.keepOnly Go.Zv.keepGo Go.Zv.mask Go.Zv.rootIn Go.Zv.rootIn1 Go.Zv.nbeq ecall efixed enests eshares ekeep eplan eu8 eflat etakes eturns Go.Zv.callArgs Go.Zv.argV Go.Zv.lent Go.Zv.distinct Go.Zv.heldIn Go.Zv.lend Go.Zv.restore Go.Zv.resOk Go.Zv.flatV Go.Zv.flat2 Go.Zv.flat1 Go.Zv.goodCells Go.Zv.boxed Go.Zv.bump Go.Zv.getP Go.Zv.cellAt Go.Zv.setP Go.Zv.setCellV Go.Zv.setRange Go.Zv.stripAll Go.Zv.V.strip Go.Zv.froz Go.Zv.hasOwn Go.Zv.shareCells Go.Zv.setPlace Go.Zv.stored Go.Zv.stale Go.Zv.stale1 Go.Zv.refAt Go.Zv.refAt1 Go.Zv.isSliceB Go.Zv.deepAt Go.Zv.isIptr Go.Zv.canon Go.Zv.canon1 Go.Zv.over Go.Zv.overGo Go.Zv.hits Go.Zv.hits1 Go.Zv.plainV Go.Zv.putB Go.Zv.isRefV Go.Zv.asOwn gv_true gv_false wrapL wrapLu8 wrapLu64 wrapLi32 wrapLu32
attribute [local simp] ety3 ety4 ety5 ety9 ety22 ety23 ety26 ety38 ety42 ety46 ety48 ety50 ety52 ety73 ety82 ety88 ety126 ety168 ety170 ety174 ety178 ety184 ety210 ti3 ti4 ti5 ti9 ti22 ti23 ti26 ti38 ti42 ti46 ti48 ti50 ti52 ti73 ti82 ti88 ti126 ti168 ti170 ti174 ti178 ti184 ti210 eu8_23 etk3 etn3 efl3 etk7 etn7 efl7 etk8 etn8 efl8 etk9 etn9 efl9 etk10 etn10 efl10 etk11 etn11 efl11 etk12 etn12 efl12 etk13 etn13 efl13 etk14 etn14 efl14 etk15 etn15 efl15 etk16 etn16 efl16 etk17 etn17 efl17 etk18 etn18 efl18 etk23 etn23 efl23 etk31 etn31 efl31 etk37 etn37 efl37 etk38 etn38 efl38 etk39 etn39 efl39 etk40 etn40 efl40 etk41 etn41 efl41 etk42 etn42 efl42 etk43 etn43 efl43 etk44 etn44 efl44 etk45 etn45 efl45 etk46 etn46 efl46 etk47 etn47 efl47 etk48 etn48 efl48 etk51 etn51 efl51 etk52 etn52 efl52 etk53 etn53 efl53 etk54 etn54 efl54 etk66 etn66 efl66 etk73 etn73 efl73 etk74 etn74 efl74 etk75 etn75 efl75 etk76 etn76 efl76 etk77 etn77 efl77 etk78 etn78 efl78 etk79 etn79 efl79 etk80 etn80 efl80 etk81 etn81 efl81 etk82 etn82 efl82 etk85 etn85 efl85 etk87 etn87 efl87 etk88 etn88 efl88 etk106 etn106 efl106 etk114 etn114 efl114 etk115 etn115 efl115 etk116 etn116 efl116 etk119 etn119 efl119 etk120 etn120 efl120 etk121 etn121 efl121 etk122 etn122 efl122 etk127 etn127 efl127 etk128 etn128 efl128 etk129 etn129 efl129 etk130 etn130 efl130 etk154 etn154 efl154 etk155 etn155 efl155 etk156 etn156 efl156 etk157 etn157 efl157 etk158 etn158 efl158 etk159 etn159 efl159 etk161 etn161 efl161 etk162 etn162 efl162 etk197 etn197 efl197 etk198 etn198 efl198 etk199 etn199 efl199 etk200 etn200 efl200 etk202 etn202 efl202 etk220 etn220 efl220 etk221 etn221 efl221 etk222 etn222 efl222 etk234 etn234 efl234 fi3 fi7 fi8 fi9 fi10 fi11 fi12 fi13 fi14 fi15 fi16 fi17 fi18 fi23 fi31 fi37 fi38 fi39 fi40 fi41 fi42 fi44 fi45 fi47 fi48 fi51 fi52 fi53 fi54 fi66 fi73 fi75 fi76 fi77 fi78 fi79 fi80 fi81 fi82 fi85 fi87 fi88 fi106 fi114 fi116 fi119 fi120 fi121 fi122 fi127 fi128 fi129 fi155 fi156 fi157 fi158 fi159 fi161 fi162 fi197 fi198 fi199 fi200 fi202 fi221 fi222
attribute [-simp] List.map_set List.map_map
theorem F37_ok (n d : Nat) {f1 : Bool} (p1 : List GFile) (rs : Bool) (hF : F37 n p1 = some rs) : callD tab prims n (d + 1) 37 [.sl 2 f1 (p1.map encGFile)] = some (.bool rs, [.undef]) := by
 obtain ⟨call, hcd⟩ : ∃ call, call = callD tab prims n (d + 0) := ⟨_, rfl⟩
 refine call_rule (d := d + 0) (N37 _) rfl ?_
 rw [← hcd]
 show runBody (envOf tab fi37 call) n Tryz.f37 (codeOf Tryz.f37) [.sl 2 f1 (p1.map encGFile)] = some (.bool rs, [.undef])
 unfold F37 at hF
 refine body_rule rfl rfl fun L hL K0 n0 r0 => ?_
 refine seq_rule fun K1 n1 e1 r1 => ?_
 refine region_rule rfl rfl rfl fun k0 hk0 => ?_
 refine op_rule fun k hk => ?_; simp; rw [hk]
 refine nil_rule ?_
 rw [hk0]
 rw [n1]
 refine seq_rule fun K2 n2 e2 r2 => ?_
 refine seq_rule fun K3 n3 e3 r3 => ?_
 refine region_rule rfl rfl rfl fun k0 hk0 => ?_
 refine op_rule fun k hk => ?_; simp; rw [hk]
 refine nil_rule ?_
 rw [hk0]
 rw [n3]
 refine block_rule fun K4 n4 x4 e4 r4 => ?_
 refine loop_rule ?_
 rw [hL]
 refine loop_F 2 [0, 3] rfl rfl (fun b : Int => [.sl 2 f1 (p1.map encGFile), .undef, .undef, .int .i64 b, .undef, .undef, .undef, .undef, .undef, .undef, .undef, .undef, .undef, .undef, .undef, .undef, .undef, .undef, .undef, .undef, .undef, .undef, .undef, .undef, .undef, .undef, .undef, .undef, .undef, .undef, .undef, .undef, .undef]) (fun m b => F37_L5 p1 m b = some rs) (fun b h => by simp [F37_L5] at h) ?_ n 0 _ hF (by first | rfl | (simp; done) | (simp [List.map_set, bytesV_eq, encGFile]; done))
 rintro m5 v6 hF L5 hL5 K'5 hnorm5 hexit5 hret5
 replace hF : F37_L5 p1 (m5 + 1) v6 = some rs := hF
 rw [F37_L5] at hF
 refine seq_rule fun K8 n8 e8 r8 => ?_
 refine seq_rule fun K9 n9 e9 r9 => ?_
 refine region_keep rfl rfl rfl rfl fun k0 hk0 => ?_
 iterate 5 (refine op_rule fun k hk => ?_; simp; rw [hk])
 refine op_rule fun k hk => ?_
 refine guard_mt (v := .int .i64 v6) rfl rfl rfl rfl (fun hb => by first | (simp [hb]; done) | (simp at hb; simp [hb, gv_pos]; done) | (simp (maxSteps := 1000000) [hb, gv_pos]; done)) ?_
 simp
 rw [hk]
 refine op_rule fun k hk => ?_
 refine guard_mt (v := .bool (decide (v6 ≤ 40))) rfl rfl rfl rfl (fun hb => by first | (simp [hb]; done) | (simp at hb; simp [hb, gv_pos]; done) | (simp (maxSteps := 1000000) [hb, gv_pos]; done)) ?_
 simp
 rw [hk]
 refine op_rule fun k hk => ?_
 refine pick_and (y := (decide (v6 ≤ 40))) rfl (unbarred_none rfl) rfl rfl rfl (fun hx => by first | rfl | (simp [hx]; done) | (simp at hx; simp [hx, gv_pos]; done) | (simp (maxSteps := 1000000) [hx, gv_pos]; done)) ?_
 simp
 rw [hk]
 refine nil_rule ?_
 rw [hk0]
 rw [n9]
 refine cond_rule rfl (fun hb => ?_) fun hb => ?_
 ·
  have hc20 : ((decide (v6 < (p1.length : Int))) && (decide (v6 ≤ 40))) = true := by first | exact hb | simpa using hb
  rw [if_pos hc20] at hF
  refine skip_rule ?_
  rw [n8]
  refine seq_rule fun K10 n10 e10 r10 => ?_
  refine block_rule fun K11 n11 x11 e11 r11 => ?_
  refine seq_rule fun K12 n12 e12 r12 => ?_
  refine region_keep rfl rfl rfl rfl fun k0 hk0 => ?_
  iterate 2 (refine op_rule fun k hk => ?_; simp; rw [hk])
  obtain ⟨x13, h14, hF⟩ := bind_some hF
  obtain ⟨⟨h14a, h14b⟩, h14c, h14d⟩ := ix_some h14
  have h14r : (p1.map encGFile).getD v6.toNat [] = encGFile x13 := by rw [List.getD_eq_getElem?_getD, List.getElem?_map, show p1[v6.toNat]? = _ from h14d]; rfl
  refine op_rule fun k hk => ?_; simp [h14a, h14b, ↓h14r, encGFile]; rw [hk]
  iterate 5 (refine op_rule fun k hk => ?_; simp; rw [hk])
  refine op_rule fun k hk => ?_
  refine guard_mf (v := .sl 2 f1 (p1.map encGFile)) rfl rfl rfl rfl (fun hb => by first | (simp [hb]; done) | (simp at hb; simp [hb, gv_pos]; done) | (simp (maxSteps := 1000000) [hb, gv_pos]; done)) ?_
  simp
  rw [hk]
  refine op_rule fun k hk => ?_
  refine guard_mf (v := .int .i64 v6) rfl rfl rfl rfl (fun hb => by first | (simp [hb]; done) | (simp at hb; simp [hb, gv_pos]; done) | (simp (maxSteps := 1000000) [hb, gv_pos]; done)) ?_
  simp
  rw [hk]
  refine op_rule fun k hk => ?_
  refine guard_mf (v := .iptr [.str x13.path_, .sl 1 false (x13.text_.map encB)] 0) rfl rfl rfl rfl (fun hb => by first | (simp [hb, h14a, h14b, ↓h14r, encGFile]; done) | (simp at hb; simp [hb, h14a, h14b, ↓h14r, encGFile, gv_pos]; done) | (simp (maxSteps := 1000000) [hb, h14a, h14b, ↓h14r, encGFile, gv_pos]; done)) ?_
  simp
  rw [hk]
  refine op_rule fun k hk => ?_
  refine guard_mf (v := .iptr [.str x13.path_, .sl 1 false (x13.text_.map encB)] 1) rfl rfl rfl rfl (fun hb => by first | (simp [hb]; done) | (simp at hb; simp [hb, gv_pos]; done) | (simp (maxSteps := 1000000) [hb, gv_pos]; done)) ?_
  simp
  rw [hk]
  refine op_rule fun k hk => ?_
  refine guard_mf (v := .sl 1 false (x13.text_.map encB)) rfl rfl rfl rfl (fun hb => by first | (simp [hb]; done) | (simp at hb; simp [hb, gv_pos]; done) | (simp (maxSteps := 1000000) [hb, gv_pos]; done)) ?_
  simp
  rw [hk]
  refine op_rule fun k hk => ?_
  refine guard_mf (v := .int .i64 (x13.text_.length : Int)) rfl rfl rfl rfl (fun hb => by first | (simp [hb]; done) | (simp at hb; simp [hb, gv_pos]; done) | (simp (maxSteps := 1000000) [hb, gv_pos]; done)) ?_
  simp
  rw [hk]
  refine op_rule fun k hk => ?_
  refine guard_mf (v := .bool (decide ((x13.text_.length : Int) > 3000))) rfl rfl rfl rfl (fun hb => by first | (simp [hb]; done) | (simp at hb; simp [hb, gv_pos]; done) | (simp (maxSteps := 1000000) [hb, gv_pos]; done)) ?_
  simp
  rw [hk]
  refine op_rule fun k hk => ?_
  refine pick_or (y := (decide ((x13.text_.length : Int) > 3000))) rfl (unbarred_none rfl) rfl rfl rfl (fun hx => by first | rfl | (simp [hx]; done) | (simp at hx; simp [hx, gv_pos]; done) | (simp (maxSteps := 1000000) [hx, gv_pos]; done)) ?_
  simp
  rw [hk]
  refine nil_rule ?_
  rw [hk0]
  rw [n12]
  refine cond_rule rfl (fun hb => ?_) fun hb => ?_
  ·
   have hc18 : ((decide ((x13.path_.length : Int) > 200)) || (decide ((x13.text_.length : Int) > 3000))) = true := by first | exact hb | simpa using hb
   rw [if_pos hc18] at hF
   refine seq_rule fun K15 n15 e15 r15 => ?_
   refine region_rule rfl rfl rfl fun k0 hk0 => ?_
   refine op_rule fun k hk => ?_; simp; rw [hk]
   refine nil_rule ?_
   rw [hk0]
   rw [n15]
   refine ret_rule ?_
   obtain rfl := Option.some.inj hF
   rw [r11, r10, hret5, r4, r2, r0]
   simp [Tryz.f37, bytesV_eq, List.map_set]
  ·
   have hc18 : ¬ ((decide ((x13.path_.length : Int) > 200)) || (decide ((x13.text_.length : Int) > 3000))) = true := by first | (rw [hb]; simp; done) | simpa using hb
   rw [if_neg hc18] at hF
   refine skip_rule ?_
   rw [n11, n10]
   refine region_rule rfl rfl rfl fun k0 hk0 => ?_
   refine op_rule fun k hk => ?_; simp; rw [hk]
   obtain ⟨i16, h17, hF⟩ := bind_some hF
   have h17w : IntKind.i64.wrap (v6 + 1) = i16 := by rw [(rng_some h17).2, (rng_some h17).1]
   refine op_rule fun k hk => ?_; simp [h17w]; rw [hk]
   refine op_rule fun k hk => ?_; simp; rw [hk]
   refine nil_rule ?_
   rw [hk0]
   refine hnorm5 _ i16 hF ?_
   first | rfl | (simp; done) | (simp [List.map_set, bytesV_eq, encGFile]; done)
 ·
  have hc20 : ¬ ((decide (v6 < (p1.length : Int))) && (decide (v6 ≤ 40))) = true := by first | (rw [hb]; simp; done) | simpa using hb
  rw [if_neg hc20] at hF
  refine exit_rule ?_
  rw [e8, hexit5, x4, n2]
  refine seq_rule fun K19 n19 e19 r19 => ?_
  refine region_rule rfl rfl rfl fun k0 hk0 => ?_
  iterate 4 (refine op_rule fun k hk => ?_; simp; rw [hk])
  refine nil_rule ?_
  rw [hk0]
  rw [n19]
  refine ret_rule ?_
  obtain rfl := Option.some.inj hF
  rw [r0]
  simp [Tryz.f37, bytesV_eq, List.map_set]
theorem F78_ok (n d : Nat) (p1 : List UInt8) (rs : Bool) (hF : F78 n p1 = some rs) : callD tab prims n (d + 1) 78 [.str p1] = some (.bool rs, [.undef]) := by
 obtain ⟨call, hcd⟩ : ∃ call, call = callD tab prims n (d + 0) := ⟨_, rfl⟩
 refine call_rule (d := d + 0) (N78 _) rfl ?_
 rw [← hcd]
 show runBody (envOf tab fi78 call) n Tryz.f78 (codeOf Tryz.f78) [.str p1] = some (.bool rs, [.undef])
 unfold F78 at hF
 refine body_rule rfl rfl fun L hL K0 n0 r0 => ?_
 refine seq_rule fun K1 n1 e1 r1 => ?_
 refine region_rule rfl rfl rfl fun k0 hk0 => ?_
 refine op_rule fun k hk => ?_; simp; rw [hk]
 refine nil_rule ?_
 rw [hk0]
 rw [n1]
 refine seq_rule fun K2 n2 e2 r2 => ?_
 refine seq_rule fun K3 n3 e3 r3 => ?_
 refine region_rule rfl rfl rfl fun k0 hk0 => ?_
 iterate 4 (refine op_rule fun k hk => ?_; simp; rw [hk])
 refine op_rule fun k hk => ?_
 refine guard_mf (v := .str p1) rfl rfl rfl rfl (fun hb => by first | (simp [hb]; done) | (simp at hb; simp [hb, gv_pos]; done) | (simp (maxSteps := 1000000) [hb, gv_pos]; done)) ?_
 simp
 rw [hk]
 refine op_rule fun k hk => ?_
 refine guard_mf (v := .bool (p1 == ([46] : List UInt8))) rfl rfl rfl rfl (fun hb => by first | (simp [hb]; done) | (simp at hb; simp [hb, gv_pos]; done) | (simp (maxSteps := 1000000) [hb, gv_pos]; done)) ?_
 simp
 rw [hk]
 refine op_rule fun k hk => ?_
 refine pick_or (y := (p1 == ([46] : List UInt8))) rfl (unbarred_none rfl) rfl rfl rfl (fun hx => by first | rfl | (simp [hx]; done) | (simp at hx; simp [hx, gv_pos]; done) | (simp (maxSteps := 1000000) [hx, gv_pos]; done)) ?_
 simp
 rw [hk]
 refine op_rule fun k hk => ?_; simp; rw [hk]
 refine op_rule fun k hk => ?_
 refine guard_mf (v := .str p1) rfl rfl rfl rfl (fun hb => by first | (simp [hb]; done) | (simp at hb; simp [hb, gv_pos]; done) | (simp (maxSteps := 1000000) [hb, gv_pos]; done)) ?_
 simp
 rw [hk]
 refine op_rule fun k hk => ?_
 refine guard_mf (v := .bool (p1 == ([46, 46] : List UInt8))) rfl rfl rfl rfl (fun hb => by first | (simp [hb]; done) | (simp at hb; simp [hb, gv_pos]; done) | (simp (maxSteps := 1000000) [hb, gv_pos]; done)) ?_
 simp
 rw [hk]
 refine op_rule fun k hk => ?_
 refine pick_or (y := (p1 == ([46, 46] : List UInt8))) rfl (unbarred_none rfl) rfl rfl rfl (fun hx => by first | rfl | (simp [hx]; done) | (simp at hx; simp [hx, gv_pos]; done) | (simp (maxSteps := 1000000) [hx, gv_pos]; done)) ?_
 simp
 rw [hk]
 refine nil_rule ?_
 rw [hk0]
 rw [n3]
 refine cond_rule rfl (fun hb => ?_) fun hb => ?_
 ·
  have hc26 : ((((p1.length : Int) == 0) || (p1 == ([46] : List UInt8))) || (p1 == ([46, 46] : List UInt8))) = true := by first | exact hb | simpa using hb
  rw [if_pos hc26] at hF
  refine seq_rule fun K4 n4 e4 r4 => ?_
  refine region_rule rfl rfl rfl fun k0 hk0 => ?_
  refine op_rule fun k hk => ?_; simp; rw [hk]
  refine nil_rule ?_
  rw [hk0]
  rw [n4]
  refine ret_rule ?_
  obtain rfl := Option.some.inj hF
  rw [r2, r0]
  simp [Tryz.f78, bytesV_eq, List.map_set]
 ·
  have hc26 : ¬ ((((p1.length : Int) == 0) || (p1 == ([46] : List UInt8))) || (p1 == ([46, 46] : List UInt8))) = true := by first | (rw [hb]; simp; done) | simpa using hb
  rw [if_neg hc26] at hF
  refine skip_rule ?_
  rw [n2]
  refine seq_rule fun K5 n5 e5 r5 => ?_
  refine seq_rule fun K6 n6 e6 r6 => ?_
  refine region_keep rfl rfl rfl rfl fun k0 hk0 => ?_
  refine op_rule fun k hk => ?_; simp; rw [hk]
  refine nil_rule ?_
  rw [hk0]
  rw [n6]
  refine block_rule fun K7 n7 x7 e7 r7 => ?_
  refine loop_rule ?_
  rw [hL]
  refine loop_F 4 [0, 3] rfl rfl (fun b : Int => [.str p1, .undef, .undef, .int .i64 b, .undef, .undef, .undef, .undef, .undef, .undef, .undef, .undef, .undef, .undef, .undef, .undef, .undef, .undef, .undef, .undef, .undef, .undef, .undef, .undef, .undef, .undef, .undef, .undef, .undef, .undef, .undef, .undef, .undef, .undef, .undef, .undef, .undef, .undef, .undef, .undef, .undef, .undef, .undef, .undef, .undef, .undef, .undef, .undef, .undef, .undef, .undef, .undef, .undef, .undef, .undef, .undef, .undef, .undef, .undef, .undef, .undef, .undef]) (fun m b => F78_L8 p1 m b = some rs) (fun b h => by simp [F78_L8] at h) ?_ n 0 _ hF (by first | rfl | (simp; done) | (simp [List.map_set, bytesV_eq]; done))
  rintro m8 v9 hF L8 hL8 K'8 hnorm8 hexit8 hret8
  replace hF : F78_L8 p1 (m8 + 1) v9 = some rs := hF
  rw [F78_L8] at hF
  refine seq_rule fun K11 n11 e11 r11 => ?_
  refine seq_rule fun K12 n12 e12 r12 => ?_
  refine region_keep rfl rfl rfl rfl fun k0 hk0 => ?_
  iterate 4 (refine op_rule fun k hk => ?_; simp; rw [hk])
  refine nil_rule ?_
  rw [hk0]
  rw [n12]
  refine cond_rule rfl (fun hb => ?_) fun hb => ?_
  ·
   have hc24 : (decide (v9 < (p1.length : Int))) = true := by first | exact hb | simpa using hb
   rw [if_pos hc24] at hF
   refine skip_rule ?_
   rw [n11]
   refine seq_rule fun K13 n13 e13 r13 => ?_
   refine block_rule fun K14 n14 x14 e14 r14 => ?_
   refine seq_rule fun K15 n15 e15 r15 => ?_
   refine region_rule rfl rfl rfl fun k0 hk0 => ?_
   iterate 2 (refine op_rule fun k hk => ?_; simp; rw [hk])
   obtain ⟨x16, h17, hF⟩ := bind_some hF
   obtain ⟨⟨h17a, h17b⟩, h17c, h17d⟩ := ix_some h17
   have h17r : (p1.map encB).getD v9.toNat [] = encB x16 := by rw [List.getD_eq_getElem?_getD, List.getElem?_map, show p1[v9.toNat]? = _ from h17d]; rfl
   have h17ru : p1.getD v9.toNat 0 = x16 := by rw [List.getD_eq_getElem?_getD, show p1[v9.toNat]? = _ from h17d]; rfl
   refine op_rule fun k hk => ?_; simp [h17a, h17b, ↓h17r, ↓h17ru]; rw [hk]
   refine op_rule fun k hk => ?_; simp; rw [hk]
   refine nil_rule ?_
   rw [hk0]
   rw [n15]
   refine seq_rule fun K18 n18 e18 r18 => ?_
   refine region_rule rfl rfl rfl fun k0 hk0 => ?_
   iterate 3 (refine op_rule fun k hk => ?_; simp; rw [hk])
   refine op_rule fun k hk => ?_
   refine guard_mt (v := .int .u8 (x16.toNat : Int)) rfl rfl rfl rfl (fun hb => by first | (simp [hb]; done) | (simp at hb; simp [hb, gv_pos]; done) | (simp (maxSteps := 1000000) [hb, gv_pos]; done)) ?_
   simp
   rw [hk]
   refine op_rule fun k hk => ?_
   refine guard_mt (v := .bool (decide ((x16.toNat : Int) ≤ 122))) rfl rfl rfl rfl (fun hb => by first | (simp [hb]; done) | (simp at hb; simp [hb, gv_pos]; done) | (simp (maxSteps := 1000000) [hb, gv_pos]; done)) ?_
   simp
   rw [hk]
   refine op_rule fun k hk => ?_
   refine pick_and (y := (decide ((x16.toNat : Int) ≤ 122))) rfl (unbarred_none rfl) rfl rfl rfl (fun hx => by first | rfl | (simp [hx]; done) | (simp at hx; simp [hx, gv_pos]; done) | (simp (maxSteps := 1000000) [hx, gv_pos]; done)) ?_
   simp
   rw [hk]
   iterate 2 (refine op_rule fun k hk => ?_; simp; rw [hk])
   refine op_rule fun k hk => ?_
   refine guard_mt (v := .int .u8 (x16.toNat : Int)) rfl rfl rfl rfl (fun hb => by first | (simp [hb]; done) | (simp at hb; simp [hb, gv_pos]; done) | (simp (maxSteps := 1000000) [hb, gv_pos]; done)) ?_
   simp
   rw [hk]
   refine op_rule fun k hk => ?_
   refine guard_mt (v := .bool (decide ((x16.toNat : Int) ≥ 65))) rfl rfl rfl rfl (fun hb => by first | (simp [hb]; done) | (simp at hb; simp [hb, gv_pos]; done) | (simp (maxSteps := 1000000) [hb, gv_pos]; done)) ?_
   simp
   rw [hk]
   refine op_rule fun k hk => ?_
   refine guard_mt (v := .bool (decide ((x16.toNat : Int) ≥ 65))) rfl rfl rfl rfl (fun hb => by first | (simp [hb]; done) | (simp at hb; simp [hb, gv_pos]; done) | (simp (maxSteps := 1000000) [hb, gv_pos]; done)) ?_
   simp
   rw [hk]
   refine op_rule fun k hk => ?_
   refine guard_nt (v := .int .u8 (x16.toNat : Int)) rfl rfl rfl rfl (fun hp hb => by first | (simp [hp, hb]; done) | (simp at hp hb; simp [hp, hb, gv_pos]; done) | (simp (maxSteps := 1000000) [hp, hb, gv_pos]; done)) ?_
   simp
   rw [hk]
   refine op_rule fun k hk => ?_
   refine guard_nt (v := .bool (decide ((x16.toNat : Int) ≤ 90))) rfl rfl rfl rfl (fun hp hb => by first | (simp [hp, hb]; done) | (simp at hp hb; simp [hp, hb, gv_pos]; done) | (simp (maxSteps := 1000000) [hp, hb, gv_pos]; done)) ?_
   simp
   rw [hk]
   refine op_rule fun k hk => ?_
   refine guard_mt (v := .bool ((decide ((x16.toNat : Int) ≥ 65)) && (decide ((x16.toNat : Int) ≤ 90)))) rfl rfl rfl rfl (fun hb => pick_eq (x := (decide ((x16.toNat : Int) ≥ 65))) (vc := .bool ((decide ((x16.toNat : Int) ≥ 65)) && (decide ((x16.toNat : Int) ≤ 90)))) rfl (by simp [hb]) (fun hx => by first | (simp [hb, hx]; done) | (simp at hb hx; simp [hb, hx, gv_pos]; done) | simp_all) (fun hx => by first | (simp [hb, hx]; done) | (simp at hb hx; simp [hb, hx, gv_pos]; done) | simp_all)) ?_
   simp
   rw [hk]
   refine op_rule fun k hk => ?_
   refine guard_mt (v := .bool (!((decide ((x16.toNat : Int) ≥ 65)) && (decide ((x16.toNat : Int) ≤ 90))))) rfl rfl rfl rfl (fun hb => by first | (simp [hb]; done) | (simp at hb; simp [hb, gv_pos]; done) | (simp (maxSteps := 1000000) [hb, gv_pos]; done)) ?_
   simp
   rw [hk]
   refine op_rule fun k hk => ?_
   refine pick_and (y := (!((decide ((x16.toNat : Int) ≥ 65)) && (decide ((x16.toNat : Int) ≤ 90))))) rfl (unbarred_none rfl) rfl rfl rfl (fun hx => by first | rfl | (simp [hx]; done) | (simp at hx; simp [hx, gv_pos]; done) | (simp (maxSteps := 1000000) [hx, gv_pos]; done)) ?_
   simp
   rw [hk]
   refine op_rule fun k hk => ?_; simp; rw [hk]
   refine op_rule fun k hk => ?_
   refine guard_mt (v := .int .u8 (x16.toNat : Int)) rfl rfl rfl rfl (fun hb => by first | (simp [hb]; done) | (simp at hb; simp [hb, gv_pos]; done) | (simp (maxSteps := 1000000) [hb, gv_pos]; done)) ?_
   simp
   rw [hk]
   refine op_rule fun k hk => ?_
   refine guard_mt (v := .bool (decide ((x16.toNat : Int) ≥ 48))) rfl rfl rfl rfl (fun hb => by first | (simp [hb]; done) | (simp at hb; simp [hb, gv_pos]; done) | (simp (maxSteps := 1000000) [hb, gv_pos]; done)) ?_
   simp
   rw [hk]
   refine op_rule fun k hk => ?_
   refine guard_mt (v := .bool (decide ((x16.toNat : Int) ≥ 48))) rfl rfl rfl rfl (fun hb => by first | (simp [hb]; done) | (simp at hb; simp [hb, gv_pos]; done) | (simp (maxSteps := 1000000) [hb, gv_pos]; done)) ?_
   simp
   rw [hk]
   refine op_rule fun k hk => ?_
   refine guard_nt (v := .int .u8 (x16.toNat : Int)) rfl rfl rfl rfl (fun hp hb => by first | (simp [hp, hb]; done) | (simp at hp hb; simp [hp, hb, gv_pos]; done) | (simp (maxSteps := 1000000) [hp, hb, gv_pos]; done)) ?_
   simp
   rw [hk]
   refine op_rule fun k hk => ?_
   refine guard_nt (v := .bool (decide ((x16.toNat : Int) ≤ 57))) rfl rfl rfl rfl (fun hp hb => by first | (simp [hp, hb]; done) | (simp at hp hb; simp [hp, hb, gv_pos]; done) | (simp (maxSteps := 1000000) [hp, hb, gv_pos]; done)) ?_
   simp
   rw [hk]
   refine op_rule fun k hk => ?_
   refine guard_mt (v := .bool ((decide ((x16.toNat : Int) ≥ 48)) && (decide ((x16.toNat : Int) ≤ 57)))) rfl rfl rfl rfl (fun hb => pick_eq (x := (decide ((x16.toNat : Int) ≥ 48))) (vc := .bool ((decide ((x16.toNat : Int) ≥ 48)) && (decide ((x16.toNat : Int) ≤ 57)))) rfl (by simp [hb]) (fun hx => by first | (simp [hb, hx]; done) | (simp at hb hx; simp [hb, hx, gv_pos]; done) | simp_all) (fun hx => by first | (simp [hb, hx]; done) | (simp at hb hx; simp [hb, hx, gv_pos]; done) | simp_all)) ?_
   simp
   rw [hk]
   refine op_rule fun k hk => ?_
   refine guard_mt (v := .bool (!((decide ((x16.toNat : Int) ≥ 48)) && (decide ((x16.toNat : Int) ≤ 57))))) rfl rfl rfl rfl (fun hb => by first | (simp [hb]; done) | (simp at hb; simp [hb, gv_pos]; done) | (simp (maxSteps := 1000000) [hb, gv_pos]; done)) ?_
   simp
   rw [hk]
   refine op_rule fun k hk => ?_
   refine pick_and (y := (!((decide ((x16.toNat : Int) ≥ 48)) && (decide ((x16.toNat : Int) ≤ 57))))) rfl (unbarred_none rfl) rfl rfl rfl (fun hx => by first | rfl | (simp [hx]; done) | (simp at hx; simp [hx, gv_pos]; done) | (simp (maxSteps := 1000000) [hx, gv_pos]; done)) ?_
   simp
   rw [hk]
   refine op_rule fun k hk => ?_; simp; rw [hk]
   refine op_rule fun k hk => ?_
   refine guard_mt (v := .int .u8 (x16.toNat : Int)) rfl rfl rfl rfl (fun hb => by first | (simp [hb]; done) | (simp at hb; simp [hb, gv_pos]; done) | (simp (maxSteps := 1000000) [hb, gv_pos]; done)) ?_
   simp
   rw [hk]
   refine op_rule fun k hk => ?_
   refine guard_mt (v := .bool ((x16.toNat : Int) != 45)) rfl rfl rfl rfl (fun hb => by first | (simp [hb]; done) | (simp at hb; simp [hb, gv_pos]; done) | (simp (maxSteps := 1000000) [hb, gv_pos]; done)) ?_
   simp
   rw [hk]
   refine op_rule fun k hk => ?_
   refine pick_and (y := ((x16.toNat : Int) != 45)) rfl (unbarred_none rfl) rfl rfl rfl (fun hx => by first | rfl | (simp [hx]; done) | (simp at hx; simp [hx, gv_pos]; done) | (simp (maxSteps := 1000000) [hx, gv_pos]; done)) ?_
   simp
   rw [hk]
   refine op_rule fun k hk => ?_; simp; rw [hk]
   refine op_rule fun k hk => ?_
   refine guard_mt (v := .int .u8 (x16.toNat : Int)) rfl rfl rfl rfl (fun hb => by first | (simp [hb]; done) | (simp at hb; simp [hb, gv_pos]; done) | (simp (maxSteps := 1000000) [hb, gv_pos]; done)) ?_
   simp
   rw [hk]
   refine op_rule fun k hk => ?_
   refine guard_mt (v := .bool ((x16.toNat : Int) != 95)) rfl rfl rfl rfl (fun hb => by first | (simp [hb]; done) | (simp at hb; simp [hb, gv_pos]; done) | (simp (maxSteps := 1000000) [hb, gv_pos]; done)) ?_
   simp
   rw [hk]
   refine op_rule fun k hk => ?_
   refine pick_and (y := ((x16.toNat : Int) != 95)) rfl (unbarred_none rfl) rfl rfl rfl (fun hx => by first | rfl | (simp [hx]; done) | (simp at hx; simp [hx, gv_pos]; done) | (simp (maxSteps := 1000000) [hx, gv_pos]; done)) ?_
   simp
   rw [hk]
   refine op_rule fun k hk => ?_; simp; rw [hk]
   refine op_rule fun k hk => ?_
   refine guard_mt (v := .int .u8 (x16.toNat : Int)) rfl rfl rfl rfl (fun hb => by first | (simp [hb]; done) | (simp at hb; simp [hb, gv_pos]; done) | (simp (maxSteps := 1000000) [hb, gv_pos]; done)) ?_
   simp
   rw [hk]
   refine op_rule fun k hk => ?_
   refine guard_mt (v := .bool ((x16.toNat : Int) != 46)) rfl rfl rfl rfl (fun hb => by first | (simp [hb]; done) | (simp at hb; simp [hb, gv_pos]; done) | (simp (maxSteps := 1000000) [hb, gv_pos]; done)) ?_
   simp
   rw [hk]
   refine op_rule fun k hk => ?_
   refine pick_and (y := ((x16.toNat : Int) != 46)) rfl (unbarred_none rfl) rfl rfl rfl (fun hx => by first | rfl | (simp [hx]; done) | (simp at hx; simp [hx, gv_pos]; done) | (simp (maxSteps := 1000000) [hx, gv_pos]; done)) ?_
   simp
   rw [hk]
   refine nil_rule ?_
   rw [hk0]
   rw [n18]
   refine cond_rule rfl (fun hb => ?_) fun hb => ?_
   ·
    have hc22 : ((((((!((decide ((x16.toNat : Int) ≥ 97)) && (decide ((x16.toNat : Int) ≤ 122)))) && (!((decide ((x16.toNat : Int) ≥ 65)) && (decide ((x16.toNat : Int) ≤ 90))))) && (!((decide ((x16.toNat : Int) ≥ 48)) && (decide ((x16.toNat : Int) ≤ 57))))) && ((x16.toNat : Int) != 45)) && ((x16.toNat : Int) != 95)) && ((x16.toNat : Int) != 46)) = true := by first | exact hb | simpa using hb
    rw [if_pos hc22] at hF
    refine seq_rule fun K19 n19 e19 r19 => ?_
    refine region_rule rfl rfl rfl fun k0 hk0 => ?_
    refine op_rule fun k hk => ?_; simp; rw [hk]
    refine nil_rule ?_
    rw [hk0]
    rw [n19]
    refine ret_rule ?_
    obtain rfl := Option.some.inj hF
    rw [r14, r13, hret8, r7, r5, r0]
    simp [Tryz.f78, bytesV_eq, List.map_set]
   ·
    have hc22 : ¬ ((((((!((decide ((x16.toNat : Int) ≥ 97)) && (decide ((x16.toNat : Int) ≤ 122)))) && (!((decide ((x16.toNat : Int) ≥ 65)) && (decide ((x16.toNat : Int) ≤ 90))))) && (!((decide ((x16.toNat : Int) ≥ 48)) && (decide ((x16.toNat : Int) ≤ 57))))) && ((x16.toNat : Int) != 45)) && ((x16.toNat : Int) != 95)) && ((x16.toNat : Int) != 46)) = true := by first | (rw [hb]; simp; done) | simpa using hb
    rw [if_neg hc22] at hF
    refine skip_rule ?_
    rw [n14, n13]
    refine region_rule rfl rfl rfl fun k0 hk0 => ?_
    refine op_rule fun k hk => ?_; simp; rw [hk]
    obtain ⟨i20, h21, hF⟩ := bind_some hF
    have h21w : IntKind.i64.wrap (v9 + 1) = i20 := by rw [(rng_some h21).2, (rng_some h21).1]
    refine op_rule fun k hk => ?_; simp [h21w]; rw [hk]
    refine op_rule fun k hk => ?_; simp; rw [hk]
    refine nil_rule ?_
    rw [hk0]
    refine hnorm8 _ i20 hF ?_
    first | rfl | (simp; done) | (simp [List.map_set, bytesV_eq]; done)
  ·
   have hc24 : ¬ (decide (v9 < (p1.length : Int))) = true := by first | (rw [hb]; simp; done) | simpa using hb
   rw [if_neg hc24] at hF
   refine exit_rule ?_
   rw [e11, hexit8, x7, n5]
   refine seq_rule fun K23 n23 e23 r23 => ?_
   refine region_rule rfl rfl rfl fun k0 hk0 => ?_
   refine op_rule fun k hk => ?_; simp; rw [hk]
   refine nil_rule ?_
   rw [hk0]
   rw [n23]
   refine ret_rule ?_
   obtain rfl := Option.some.inj hF
   rw [r0]
   simp [Tryz.f78, bytesV_eq, List.map_set]
theorem F44_ok (n d : Nat) (p1 : List UInt8) (rs : Bool) (hF : F44 n p1 = some rs) : callD tab prims n (d + 2) 44 [.str p1] = some (.bool rs, [.undef]) := by
 obtain ⟨call, hcd⟩ : ∃ call, call = callD tab prims n (d + 1) := ⟨_, rfl⟩
 refine call_rule (d := d + 1) (N44 _) rfl ?_
 rw [← hcd]
 show runBody (envOf tab fi44 call) n Tryz.f44 (codeOf Tryz.f44) [.str p1] = some (.bool rs, [.undef])
 unfold F44 at hF
 refine body_rule rfl rfl fun L hL K0 n0 r0 => ?_
 refine seq_rule fun K1 n1 e1 r1 => ?_
 refine region_rule rfl rfl rfl fun k0 hk0 => ?_
 refine op_rule fun k hk => ?_; simp; rw [hk]
 refine nil_rule ?_
 rw [hk0]
 rw [n1]
 refine seq_rule fun K2 n2 e2 r2 => ?_
 refine seq_rule fun K3 n3 e3 r3 => ?_
 refine region_rule rfl rfl rfl fun k0 hk0 => ?_
 iterate 3 (refine op_rule fun k hk => ?_; simp; rw [hk])
 refine nil_rule ?_
 rw [hk0]
 rw [n3]
 refine cond_rule rfl (fun hb => ?_) fun hb => ?_
 ·
  have hc46 : (decide ((p1.length : Int) > 60)) = true := by first | exact hb | simpa using hb
  rw [if_pos hc46] at hF
  refine seq_rule fun K4 n4 e4 r4 => ?_
  refine region_rule rfl rfl rfl fun k0 hk0 => ?_
  refine op_rule fun k hk => ?_; simp; rw [hk]
  refine nil_rule ?_
  rw [hk0]
  rw [n4]
  refine ret_rule ?_
  obtain rfl := Option.some.inj hF
  rw [r2, r0]
  simp [Tryz.f44, bytesV_eq, List.map_set]
 ·
  have hc46 : ¬ (decide ((p1.length : Int) > 60)) = true := by first | (rw [hb]; simp; done) | simpa using hb
  rw [if_neg hc46] at hF
  refine skip_rule ?_
  rw [n2]
  refine seq_rule fun K5 n5 e5 r5 => ?_
  refine region_rule rfl rfl rfl fun k0 hk0 => ?_
  refine op_rule fun k hk => ?_; simp; rw [hk]
  refine nil_rule ?_
  rw [hk0]
  rw [n5]
  refine seq_rule fun K6 n6 e6 r6 => ?_
  refine seq_rule fun K7 n7 e7 r7 => ?_
  refine region_rule rfl rfl rfl fun k0 hk0 => ?_
  refine op_rule fun k hk => ?_; simp; rw [hk]
  refine nil_rule ?_
  rw [hk0]
  rw [n7]
  refine block_rule fun K8 n8 x8 e8 r8 => ?_
  refine loop_rule ?_
  rw [hL]
  refine loop_F 5 [0, 3, 4] rfl rfl (fun b : Int × Int => [.str p1, .undef, .undef, .int .i64 b.1, .int .i64 b.2, .undef, .undef, .undef, .undef, .undef, .undef, .undef, .undef, .undef, .undef, .undef, .undef, .undef, .undef, .undef, .undef, .undef, .undef, .undef, .undef, .undef, .undef, .undef, .undef, .undef]) (fun m b => F44_L9 n p1 m b.1 b.2 = some rs) (fun b h => by simp [F44_L9] at h) ?_ n (0, 0) _ hF (by first | rfl | (simp; done) | (simp [List.map_set, bytesV_eq]; done))
  rintro m9 ⟨v10, v11⟩ hF L9 hL9 K'9 hnorm9 hexit9 hret9
  replace hF : F44_L9 n p1 (m9 + 1) v10 v11 = some rs := hF
  rw [F44_L9] at hF
  refine seq_rule fun K14 n14 e14 r14 => ?_
  refine seq_rule fun K15 n15 e15 r15 => ?_
  refine region_keep rfl rfl rfl rfl fun k0 hk0 => ?_
  iterate 4 (refine op_rule fun k hk => ?_; simp; rw [hk])
  refine nil_rule ?_
  rw [hk0]
  rw [n15]
  refine cond_rule rfl (fun hb => ?_) fun hb => ?_
  ·
   have hc43 : (decide (v11 < (p1.length : Int))) = true := by first | exact hb | simpa using hb
   rw [if_pos hc43] at hF
   refine skip_rule ?_
   rw [n14]
   refine seq_rule fun K16 n16 e16 r16 => ?_
   refine block_rule fun K17 n17 x17 e17 r17 => ?_
   refine seq_rule fun K18 n18 e18 r18 => ?_
   refine region_rule rfl rfl rfl fun k0 hk0 => ?_
   iterate 2 (refine op_rule fun k hk => ?_; simp; rw [hk])
   obtain ⟨x19, h20, hF⟩ := bind_some hF
   obtain ⟨⟨h20a, h20b⟩, h20c, h20d⟩ := ix_some h20
   have h20r : (p1.map encB).getD v11.toNat [] = encB x19 := by rw [List.getD_eq_getElem?_getD, List.getElem?_map, show p1[v11.toNat]? = _ from h20d]; rfl
   have h20ru : p1.getD v11.toNat 0 = x19 := by rw [List.getD_eq_getElem?_getD, show p1[v11.toNat]? = _ from h20d]; rfl
   refine op_rule fun k hk => ?_; simp [h20a, h20b, ↓h20r, ↓h20ru]; rw [hk]
   refine op_rule fun k hk => ?_; simp; rw [hk]
   refine nil_rule ?_
   rw [hk0]
   rw [n18]
   refine cond_rule rfl (fun hb => ?_) fun hb => ?_
   ·
    have hc36 : ((x19.toNat : Int) == 47) = true := by first | exact hb | simpa using hb
    rw [if_pos hc36] at hF
    refine seq_rule fun K21 n21 e21 r21 => ?_
    refine seq_rule fun K22 n22 e22 r22 => ?_
    refine region_rule rfl rfl rfl fun k0 hk0 => ?_
    iterate 3 (refine op_rule fun k hk => ?_; simp; rw [hk])
    obtain ⟨l23, h24, hF⟩ := bind_some hF
    obtain ⟨h24a, h24b, h24c, h24d, h24e⟩ := cutI_some h24
    have h24v0 : (p1.take v11.toNat).drop v10.toNat = l23 := by rw [h24e] <;> first | (simp [List.map_take, List.map_drop]; done) | (rw [List.take_of_length_le (l := p1) (by simp)]; simp [List.map_take, List.map_drop])
    refine op_rule fun k hk => ?_; simp [h24a, h24b, h24c, h24d, h24v0]; rw [hk]
    obtain ⟨r25, h26, hF⟩ := bind_some hF
    have c27 : call 78 [.str l23] = some (.bool r25, [.undef]) := by rw [hcd]; exact F78_ok n (d + 0) l23 r25 h26
    refine op_rule fun k hk => ?_; simp [c27]; rw [hk]
    refine op_rule fun k hk => ?_; simp; rw [hk]
    refine nil_rule ?_
    rw [hk0]
    rw [n22]
    refine cond_rule rfl (fun hb => ?_) fun hb => ?_
    ·
     have hc33 : (!r25) = true := by first | exact hb | simpa using hb
     rw [if_pos hc33] at hF
     refine seq_rule fun K28 n28 e28 r28 => ?_
     refine region_rule rfl rfl rfl fun k0 hk0 => ?_
     refine op_rule fun k hk => ?_; simp; rw [hk]
     refine nil_rule ?_
     rw [hk0]
     rw [n28]
     refine ret_rule ?_
     obtain rfl := Option.some.inj hF
     rw [r21, r17, r16, hret9, r8, r6, r0]
     simp [Tryz.f44, bytesV_eq, List.map_set]
    ·
     have hc33 : ¬ (!r25) = true := by first | (rw [hb]; simp; done) | simpa using hb
     rw [if_neg hc33] at hF
     refine skip_rule ?_
     rw [n21]
     refine region_rule rfl rfl rfl fun k0 hk0 => ?_
     refine op_rule fun k hk => ?_; simp; rw [hk]
     obtain ⟨i29, h30, hF⟩ := bind_some hF
     have h30w : IntKind.i64.wrap (v11 + 1) = i29 := by rw [(rng_some h30).2, (rng_some h30).1]
     refine op_rule fun k hk => ?_; simp [h30w]; rw [hk]
     refine op_rule fun k hk => ?_; simp; rw [hk]
     refine nil_rule ?_
     rw [hk0]
     rw [n17, n16]
     refine region_rule rfl rfl rfl fun k0 hk0 => ?_
     refine op_rule fun k hk => ?_; simp; rw [hk]
     obtain ⟨i31, h32, hF⟩ := bind_some hF
     have h32w : IntKind.i64.wrap (v11 + 1) = i31 := by rw [(rng_some h32).2, (rng_some h32).1]
     refine op_rule fun k hk => ?_; simp [h32w]; rw [hk]
     refine op_rule fun k hk => ?_; simp; rw [hk]
     refine nil_rule ?_
     rw [hk0]
     refine hnorm9 _ (i29, i31) hF ?_
     first | rfl | (simp; done) | (simp [List.map_set, bytesV_eq]; done)
   ·
    have hc36 : ¬ ((x19.toNat : Int) == 47) = true := by first | (rw [hb]; simp; done) | simpa using hb
    rw [if_neg hc36] at hF
    refine skip_rule ?_
    rw [n17, n16]
    refine region_rule rfl rfl rfl fun k0 hk0 => ?_
    refine op_rule fun k hk => ?_; simp; rw [hk]
    obtain ⟨i34, h35, hF⟩ := bind_some hF
    have h35w : IntKind.i64.wrap (v11 + 1) = i34 := by rw [(rng_some h35).2, (rng_some h35).1]
    refine op_rule fun k hk => ?_; simp [h35w]; rw [hk]
    refine op_rule fun k hk => ?_; simp; rw [hk]
    refine nil_rule ?_
    rw [hk0]
    refine hnorm9 _ (v10, i34) hF ?_
    first | rfl | (simp; done) | (simp [List.map_set, bytesV_eq]; done)
  ·
   have hc43 : ¬ (decide (v11 < (p1.length : Int))) = true := by first | (rw [hb]; simp; done) | simpa using hb
   rw [if_neg hc43] at hF
   refine exit_rule ?_
   rw [e14, hexit9, x8, n6]
   refine seq_rule fun K37 n37 e37 r37 => ?_
   refine region_rule rfl rfl rfl fun k0 hk0 => ?_
   iterate 2 (refine op_rule fun k hk => ?_; simp; rw [hk])
   obtain ⟨l38, h39, hF⟩ := bind_some hF
   obtain ⟨h39a, h39b, h39c, h39d, h39e⟩ := cutI_some h39
   have h39v0 : p1.drop v10.toNat = l38 := by rw [h39e] <;> first | (simp [List.map_take, List.map_drop]; done) | (rw [List.take_of_length_le (l := p1) (by simp)]; simp [List.map_take, List.map_drop])
   have h39v1 : (p1.take p1.length).drop v10.toNat = l38 := by rw [h39e] <;> first | (simp [List.map_take, List.map_drop]; done) | (rw [List.take_of_length_le (l := p1) (by simp)]; simp [List.map_take, List.map_drop])
   refine op_rule fun k hk => ?_; simp [h39a, h39b, h39c, h39d, h39v0, h39v1]; rw [hk]
   obtain ⟨r40, h41, hF⟩ := bind_some hF
   have c42 : call 78 [.str l38] = some (.bool r40, [.undef]) := by rw [hcd]; exact F78_ok n (d + 0) l38 r40 h41
   refine op_rule fun k hk => ?_; simp [c42]; rw [hk]
   refine op_rule fun k hk => ?_; simp; rw [hk]
   refine nil_rule ?_
   rw [hk0]
   rw [n37]
   refine ret_rule ?_
   obtain rfl := Option.some.inj hF
   rw [r0]
   simp [Tryz.f44, bytesV_eq, List.map_set]
theorem F79_ok (n d : Nat) {f1 : Bool} (p1 : List UInt8) (rs : (List (List UInt8))) (hF : F79 n p1 = some rs) : callD tab prims n (d + 1) 79 [.sl 1 f1 (p1.map encB)] = some (.own false 1 (rs.map encS), [.undef]) := by
 obtain ⟨call, hcd⟩ : ∃ call, call = callD tab prims n (d + 0) := ⟨_, rfl⟩
 refine call_rule (d := d + 0) (N79 _) rfl ?_
 rw [← hcd]
 show runBody (envOf tab fi79 call) n Tryz.f79 (codeOf Tryz.f79) [.sl 1 f1 (p1.map encB)] = some (.own false 1 (rs.map encS), [.undef])
 unfold F79 at hF
 refine body_rule rfl rfl fun L hL K0 n0 r0 => ?_
 refine seq_rule fun K1 n1 e1 r1 => ?_
 refine region_rule rfl rfl rfl fun k0 hk0 => ?_
 refine op_rule fun k hk => ?_; simp; rw [hk]
 refine nil_rule ?_
 rw [hk0]
 rw [n1]
 refine seq_rule fun K2 n2 e2 r2 => ?_
 refine region_rule rfl rfl rfl fun k0 hk0 => ?_
 refine op_rule fun k hk => ?_; simp [Go.Zv.chunks, List.range_succ]; rw [hk]
 refine op_rule fun k hk => ?_; simp; rw [hk]
 refine nil_rule ?_
 rw [hk0]
 rw [n2]
 refine seq_rule fun K3 n3 e3 r3 => ?_
 refine region_rule rfl rfl rfl fun k0 hk0 => ?_
 refine op_rule fun k hk => ?_; simp; rw [hk]
 refine nil_rule ?_
 rw [hk0]
 rw [n3]
 refine seq_rule fun K4 n4 e4 r4 => ?_
 refine seq_rule fun K5 n5 e5 r5 => ?_
 refine region_rule rfl rfl rfl fun k0 hk0 => ?_
 refine op_rule fun k hk => ?_; simp; rw [hk]
 refine nil_rule ?_
 rw [hk0]
 rw [n5]
 refine block_rule fun K6 n6 x6 e6 r6 => ?_
 refine loop_rule ?_
 rw [hL]
 refine loop_F 4 [0, 3, 4, 5] rfl rfl (fun b : (List (List UInt8)) × Int × Int => [.sl 1 f1 (p1.map encB), .undef, .undef, .own false 1 (b.1.map encS), .int .i64 b.2.1, .int .i64 b.2.2, .undef, .undef, .undef, .undef, .undef, .undef, .undef, .undef, .undef, .undef, .undef, .undef, .undef, .undef, .undef, .undef, .undef, .undef, .undef, .undef, .undef, .undef, .undef, .undef, .undef, .undef, .undef, .undef, .undef, .undef, .undef, .undef, .undef, .undef, .undef, .undef, .undef]) (fun m b => F79_L7 p1 m b.1 b.2.1 b.2.2 = some rs) (fun b h => by simp [F79_L7] at h) ?_ n (([([] : List UInt8)] : List (List UInt8)), 0, 0) _ hF (by first | rfl | (simp; done) | (simp [List.map_set, bytesV_eq, encB, encS]; done))
 rintro m7 ⟨v8, v9, v10⟩ hF L7 hL7 K'7 hnorm7 hexit7 hret7
 replace hF : F79_L7 p1 (m7 + 1) v8 v9 v10 = some rs := hF
 rw [F79_L7] at hF
 refine seq_rule fun K14 n14 e14 r14 => ?_
 refine seq_rule fun K15 n15 e15 r15 => ?_
 refine region_keep rfl rfl rfl rfl fun k0 hk0 => ?_
 iterate 4 (refine op_rule fun k hk => ?_; simp; rw [hk])
 refine nil_rule ?_
 rw [hk0]
 rw [n15]
 refine cond_rule rfl (fun hb => ?_) fun hb => ?_
 ·
  have hc45 : (decide (v10 < (p1.length : Int))) = true := by first | exact hb | simpa using hb
  rw [if_pos hc45] at hF
  refine skip_rule ?_
  rw [n14]
  refine seq_rule fun K16 n16 e16 r16 => ?_
  refine block_rule fun K17 n17 x17 e17 r17 => ?_
  refine seq_rule fun K18 n18 e18 r18 => ?_
  refine region_rule rfl rfl rfl fun k0 hk0 => ?_
  iterate 2 (refine op_rule fun k hk => ?_; simp; rw [hk])
  obtain ⟨x19, h20, hF⟩ := bind_some hF
  obtain ⟨⟨h20a, h20b⟩, h20c, h20d⟩ := ix_some h20
  have h20r : (p1.map encB).getD v10.toNat [] = encB x19 := by rw [List.getD_eq_getElem?_getD, List.getElem?_map, show p1[v10.toNat]? = _ from h20d]; rfl
  have h20ru : p1.getD v10.toNat 0 = x19 := by rw [List.getD_eq_getElem?_getD, show p1[v10.toNat]? = _ from h20d]; rfl
  refine op_rule fun k hk => ?_; simp [h20a, h20b, ↓h20r, ↓h20ru, encB]; rw [hk]
  iterate 2 (refine op_rule fun k hk => ?_; simp; rw [hk])
  refine nil_rule ?_
  rw [hk0]
  rw [n18]
  refine cond_rule rfl (fun hb => ?_) fun hb => ?_
  ·
   have hc36 : ((x19.toNat : Int) == 10) = true := by first | exact hb | simpa using hb
   rw [if_pos hc36] at hF
   refine seq_rule fun K21 n21 e21 r21 => ?_
   refine region_rule rfl rfl rfl fun k0 hk0 => ?_
   iterate 3 (refine op_rule fun k hk => ?_; simp; rw [hk])
   obtain ⟨i22, h23, hF⟩ := bind_some hF
   have h23w : IntKind.i64.wrap ((v8.length : Int) - 1) = i22 := by rw [(rng_some h23).2, (rng_some h23).1]
   refine op_rule fun k hk => ?_; simp [h23w]; rw [hk]
   iterate 3 (refine op_rule fun k hk => ?_; simp; rw [hk])
   obtain ⟨l24, h25, hF⟩ := bind_some hF
   obtain ⟨h25a, h25b, h25c, h25d, h25e⟩ := cutI_some h25
   have h25v0 : ((p1.map encB).take v10.toNat).drop v9.toNat = l24.map encB := by rw [h25e] <;> first | (simp [List.map_take, List.map_drop]; done) | (rw [List.take_of_length_le (l := (p1.map encB)) (by simp)]; simp [List.map_take, List.map_drop])
   refine op_rule fun k hk => ?_; simp [h25a, h25b, h25c, h25d, h25v0]; rw [hk]
   refine op_rule fun k hk => ?_; simp [asBytes_map]; rw [hk]
   obtain ⟨x26, h27, hF⟩ := bind_some hF
   obtain ⟨⟨h27a, h27b⟩, h27c, h27d⟩ := ix_some h27
   have h27r : (v8.map encS).getD i22.toNat [] = encS x26 := by rw [List.getD_eq_getElem?_getD, List.getElem?_map, show v8[i22.toNat]? = _ from h27d]; rfl
   refine op_rule fun k hk => ?_; simp [h27a, h27b, ↓h27r]; rw [hk]
   refine op_rule fun k hk => ?_; simp [h27a, h27b, ↓h27r, List.map_set, encS]; rw [hk]
   refine nil_rule ?_
   rw [hk0]
   rw [n21]
   refine seq_rule fun K28 n28 e28 r28 => ?_
   refine region_rule rfl rfl rfl fun k0 hk0 => ?_
   refine op_rule fun k hk => ?_; simp; rw [hk]
   refine op_rule fun k hk => ?_; simp [Go.Zv.chunks, List.range_succ]; rw [hk]
   obtain ⟨_, h29, hF⟩ := bind_some hF
   replace h29 := need_some h29
   refine op_rule fun k hk => ?_; simp [h29]; rw [hk]
   refine op_rule fun k hk => ?_; simp; rw [hk]
   refine nil_rule ?_
   rw [hk0]
   rw [n28]
   refine region_rule rfl rfl rfl fun k0 hk0 => ?_
   refine op_rule fun k hk => ?_; simp; rw [hk]
   obtain ⟨i30, h31, hF⟩ := bind_some hF
   have h31w : IntKind.i64.wrap (v10 + 1) = i30 := by rw [(rng_some h31).2, (rng_some h31).1]
   refine op_rule fun k hk => ?_; simp [h31w]; rw [hk]
   refine op_rule fun k hk => ?_; simp; rw [hk]
   refine nil_rule ?_
   rw [hk0]
   rw [n17, n16]
   refine region_rule rfl rfl rfl fun k0 hk0 => ?_
   refine op_rule fun k hk => ?_; simp; rw [hk]
   obtain ⟨i32, h33, hF⟩ := bind_some hF
   have h33w : IntKind.i64.wrap (v10 + 1) = i32 := by rw [(rng_some h33).2, (rng_some h33).1]
   refine op_rule fun k hk => ?_; simp [h33w]; rw [hk]
   refine op_rule fun k hk => ?_; simp; rw [hk]
   refine nil_rule ?_
   rw [hk0]
   refine hnorm7 _ (((v8.set i22.toNat l24) ++ ([([] : List UInt8)] : List (List UInt8))), i30, i32) hF ?_
   first | rfl | (simp; done) | (simp [List.map_set, bytesV_eq, encB, encS]; done)
  ·
   have hc36 : ¬ ((x19.toNat : Int) == 10) = true := by first | (rw [hb]; simp; done) | simpa using hb
   rw [if_neg hc36] at hF
   refine skip_rule ?_
   rw [n17, n16]
   refine region_rule rfl rfl rfl fun k0 hk0 => ?_
   refine op_rule fun k hk => ?_; simp; rw [hk]
   obtain ⟨i34, h35, hF⟩ := bind_some hF
   have h35w : IntKind.i64.wrap (v10 + 1) = i34 := by rw [(rng_some h35).2, (rng_some h35).1]
   refine op_rule fun k hk => ?_; simp [h35w]; rw [hk]
   refine op_rule fun k hk => ?_; simp; rw [hk]
   refine nil_rule ?_
   rw [hk0]
   refine hnorm7 _ (v8, v9, i34) hF ?_
   first | rfl | (simp; done) | (simp [List.map_set, bytesV_eq, encB, encS]; done)
 ·
  have hc45 : ¬ (decide (v10 < (p1.length : Int))) = true := by first | (rw [hb]; simp; done) | simpa using hb
  rw [if_neg hc45] at hF
  refine exit_rule ?_
  rw [e14, hexit7, x6, n4]
  refine seq_rule fun K37 n37 e37 r37 => ?_
  refine region_rule rfl rfl rfl fun k0 hk0 => ?_
  iterate 3 (refine op_rule fun k hk => ?_; simp; rw [hk])
  obtain ⟨i38, h39, hF⟩ := bind_some hF
  have h39w : IntKind.i64.wrap ((v8.length : Int) - 1) = i38 := by rw [(rng_some h39).2, (rng_some h39).1]
  refine op_rule fun k hk => ?_; simp [h39w]; rw [hk]
  iterate 2 (refine op_rule fun k hk => ?_; simp; rw [hk])
  obtain ⟨l40, h41, hF⟩ := bind_some hF
  obtain ⟨h41a, h41b, h41c, h41d, h41e⟩ := cutI_some h41
  have h41v0 : (p1.map encB).drop v9.toNat = l40.map encB := by rw [h41e] <;> first | (simp [List.map_take, List.map_drop]; done) | (rw [List.take_of_length_le (l := (p1.map encB)) (by simp)]; simp [List.map_take, List.map_drop])
  have h41v1 : ((p1.map encB).take p1.length).drop v9.toNat = l40.map encB := by rw [h41e] <;> first | (simp [List.map_take, List.map_drop]; done) | (rw [List.take_of_length_le (l := (p1.map encB)) (by simp)]; simp [List.map_take, List.map_drop])
  refine op_rule fun k hk => ?_; simp [h41a, h41b, h41c, h41d, h41v0, h41v1]; rw [hk]
  refine op_rule fun k hk => ?_; simp [asBytes_map]; rw [hk]
  obtain ⟨x42, h43, hF⟩ := bind_some hF
  obtain ⟨⟨h43a, h43b⟩, h43c, h43d⟩ := ix_some h43
  have h43r : (v8.map encS).getD i38.toNat [] = encS x42 := by rw [List.getD_eq_getElem?_getD, List.getElem?_map, show v8[i38.toNat]? = _ from h43d]; rfl
  refine op_rule fun k hk => ?_; simp [h43a, h43b, ↓h43r]; rw [hk]
  refine op_rule fun k hk => ?_; simp [h43a, h43b, ↓h43r, List.map_set, encS]; rw [hk]
  refine nil_rule ?_
  rw [hk0]
  rw [n37]
  refine seq_rule fun K44 n44 e44 r44 => ?_
  refine region_rule rfl rfl rfl fun k0 hk0 => ?_
  iterate 2 (refine op_rule fun k hk => ?_; simp; rw [hk])
  refine nil_rule ?_
  rw [hk0]
  rw [n44]
  refine ret_rule ?_
  obtain rfl := Option.some.inj hF
  rw [r0]
  simp [Tryz.f79, encS, bytesV_eq, List.map_set]
theorem F45_ok (n d : Nat) {f1 : Bool} (p1 : List UInt8) (rs : Int) (hF : F45 n p1 = some rs) : callD tab prims n (d + 2) 45 [.sl 1 f1 (p1.map encB)] = some (.int .i64 rs, [.undef]) := by
 obtain ⟨call, hcd⟩ : ∃ call, call = callD tab prims n (d + 1) := ⟨_, rfl⟩
 refine call_rule (d := d + 1) (N45 _) rfl ?_
 rw [← hcd]
 show runBody (envOf tab fi45 call) n Tryz.f45 (codeOf Tryz.f45) [.sl 1 f1 (p1.map encB)] = some (.int .i64 rs, [.undef])
 unfold F45 at hF
 refine body_rule rfl rfl fun L hL K0 n0 r0 => ?_
 refine seq_rule fun K1 n1 e1 r1 => ?_
 refine region_rule rfl rfl rfl fun k0 hk0 => ?_
 refine op_rule fun k hk => ?_; simp; rw [hk]
 refine nil_rule ?_
 rw [hk0]
 rw [n1]
 refine seq_rule fun K2 n2 e2 r2 => ?_
 refine seq_rule fun K3 n3 e3 r3 => ?_
 refine region_rule rfl rfl rfl fun k0 hk0 => ?_
 iterate 4 (refine op_rule fun k hk => ?_; simp; rw [hk])
 refine op_rule fun k hk => ?_
 refine guard_mf (v := .sl 1 f1 (p1.map encB)) rfl rfl rfl rfl (fun hb => by first | (simp [hb]; done) | (simp at hb; simp [hb, gv_pos]; done) | (simp (maxSteps := 1000000) [hb, gv_pos]; done)) ?_
 simp
 rw [hk]
 refine op_rule fun k hk => ?_
 refine guard_f rfl rfl rfl rfl (fun hg4r => ?_) fun hg4r => ?_
 ·
  have hg4 : (decide ((p1.length : Int) > 2000)) = true := by first | exact hg4r | simpa using hg4r
  rw [if_pos hg4] at hF
  simp [hg4r]
  rw [hk]
  iterate 3 (refine op_rule fun k hk => ?_; simp; rw [hk])
  refine nil_rule ?_
  rw [hk0]
  rw [n3]
  refine cond_rule rfl (fun hb => ?_) fun hb => by simp at hb
  refine seq_rule fun K5 n5 e5 r5 => ?_
  refine region_rule rfl rfl rfl fun k0 hk0 => ?_
  refine op_rule fun k hk => ?_; simp; rw [hk]
  refine nil_rule ?_
  rw [hk0]
  rw [n5]
  refine ret_rule ?_
  obtain rfl := Option.some.inj hF
  rw [r2, r0]
  simp [Tryz.f45, bytesV_eq, List.map_set]
 ·
  have hg4 : ¬ (decide ((p1.length : Int) > 2000)) = true := by first | (rw [hg4r]; simp; done) | simpa using hg4r
  rw [if_neg hg4] at hF
  obtain ⟨r6, h7, hF⟩ := bind_some hF
  have c8 : call 79 [.sl 1 f1 (p1.map encB)] = some (.own false 1 (r6.map encS), [.undef]) := by rw [hcd]; exact F79_ok n (d + 0) p1 r6 h7
  have hg4n := hg4r
  try simp at hg4n
  simp [hg4r, hg4n, gv_pos, gv_neg, c8]
  rw [hk]
  iterate 3 (refine op_rule fun k hk => ?_; simp; rw [hk])
  refine nil_rule ?_
  rw [hk0]
  rw [n3]
  refine cond_rule rfl (fun hb => ?_) fun hb => ?_
  ·
   have hc11 : (decide ((r6.length : Int) > 60)) = true := by first | exact hb | simpa using hb
   rw [if_pos hc11] at hF
   refine seq_rule fun K9 n9 e9 r9 => ?_
   refine region_rule rfl rfl rfl fun k0 hk0 => ?_
   refine op_rule fun k hk => ?_; simp; rw [hk]
   refine nil_rule ?_
   rw [hk0]
   rw [n9]
   refine ret_rule ?_
   obtain rfl := Option.some.inj hF
   rw [r2, r0]
   simp [Tryz.f45, bytesV_eq, List.map_set]
  ·
   have hc11 : ¬ (decide ((r6.length : Int) > 60)) = true := by first | (rw [hb]; simp; done) | simpa using hb
   rw [if_neg hc11] at hF
   refine skip_rule ?_
   rw [n2]
   refine seq_rule fun K10 n10 e10 r10 => ?_
   refine region_rule rfl rfl rfl fun k0 hk0 => ?_
   refine op_rule fun k hk => ?_; simp; rw [hk]
   refine nil_rule ?_
   rw [hk0]
   rw [n10]
   refine ret_rule ?_
   obtain rfl := Option.some.inj hF
   rw [r0]
   simp [Tryz.f45, bytesV_eq, List.map_set]
theorem F13_ok (n d : Nat) {f1 : Bool} (p1 : List GFile) (rs : Int) (hF : F13 n p1 = some rs) : callD tab prims n (d + 3) 13 [.sl 2 f1 (p1.map encGFile)] = some (.int .i64 rs, [.undef]) := by
 obtain ⟨call, hcd⟩ : ∃ call, call = callD tab prims n (d + 2) := ⟨_, rfl⟩
 refine call_rule (d := d + 2) (N13 _) rfl ?_
 rw [← hcd]
 show runBody (envOf tab fi13 call) n Tryz.f13 (codeOf Tryz.f13) [.sl 2 f1 (p1.map encGFile)] = some (.int .i64 rs, [.undef])
 unfold F13 at hF
 refine body_rule rfl rfl fun L hL K0 n0 r0 => ?_
 refine seq_rule fun K1 n1 e1 r1 => ?_
 refine region_rule rfl rfl rfl fun k0 hk0 => ?_
 refine op_rule fun k hk => ?_; simp; rw [hk]
 refine nil_rule ?_
 rw [hk0]
 rw [n1]
 refine seq_rule fun K2 n2 e2 r2 => ?_
 refine seq_rule fun K3 n3 e3 r3 => ?_
 refine region_rule rfl rfl rfl fun k0 hk0 => ?_
 iterate 3 (refine op_rule fun k hk => ?_; simp; rw [hk])
 refine nil_rule ?_
 rw [hk0]
 rw [n3]
 refine cond_rule rfl (fun hb => ?_) fun hb => ?_
 ·
  have hc64 : (decide ((p1.length : Int) > 12)) = true := by first | exact hb | simpa using hb
  rw [if_pos hc64] at hF
  refine seq_rule fun K4 n4 e4 r4 => ?_
  refine region_rule rfl rfl rfl fun k0 hk0 => ?_
  refine op_rule fun k hk => ?_; simp; rw [hk]
  refine nil_rule ?_
  rw [hk0]
  rw [n4]
  refine ret_rule ?_
  obtain rfl := Option.some.inj hF
  rw [r2, r0]
  simp [Tryz.f13, bytesV_eq, List.map_set]
 ·
  have hc64 : ¬ (decide ((p1.length : Int) > 12)) = true := by first | (rw [hb]; simp; done) | simpa using hb
  rw [if_neg hc64] at hF
  refine skip_rule ?_
  rw [n2]
  refine seq_rule fun K5 n5 e5 r5 => ?_
  refine seq_rule fun K6 n6 e6 r6 => ?_
  refine region_rule rfl rfl rfl fun k0 hk0 => ?_
  refine op_rule fun k hk => ?_; simp; rw [hk]
  refine nil_rule ?_
  rw [hk0]
  rw [n6]
  refine block_rule fun K7 n7 x7 e7 r7 => ?_
  refine loop_rule ?_
  rw [hL]
  refine loop_F 4 [0, 3] rfl rfl (fun b : Int => [.sl 2 f1 (p1.map encGFile), .undef, .undef, .int .i64 b, .undef, .undef, .undef, .undef, .undef, .undef, .undef, .undef, .undef, .undef, .undef, .undef, .undef, .undef, .undef, .undef, .undef, .undef, .undef, .undef, .undef, .undef, .undef, .undef, .undef, .undef, .undef, .undef, .undef, .undef, .undef, .undef, .undef, .undef, .undef, .undef, .undef, .undef, .undef, .undef, .undef, .undef, .undef, .undef, .undef, .undef, .undef, .undef, .undef, .undef, .undef, .undef, .undef]) (fun m b => F13_L8 n p1 m b = some rs) (fun b h => by simp [F13_L8] at h) ?_ n 0 _ hF (by first | rfl | (simp; done) | (simp [List.map_set, bytesV_eq, encGFile]; done))
  rintro m8 v9 hF L8 hL8 K'8 hnorm8 hexit8 hret8
  replace hF : F13_L8 n p1 (m8 + 1) v9 = some rs := hF
  rw [F13_L8] at hF
  refine seq_rule fun K11 n11 e11 r11 => ?_
  refine seq_rule fun K12 n12 e12 r12 => ?_
  refine region_keep rfl rfl rfl rfl fun k0 hk0 => ?_
  iterate 4 (refine op_rule fun k hk => ?_; simp; rw [hk])
  refine nil_rule ?_
  rw [hk0]
  rw [n12]
  refine cond_rule rfl (fun hb => ?_) fun hb => ?_
  ·
   have hc62 : (decide (v9 < (p1.length : Int))) = true := by first | exact hb | simpa using hb
   rw [if_pos hc62] at hF
   refine skip_rule ?_
   rw [n11]
   refine seq_rule fun K13 n13 e13 r13 => ?_
   refine block_rule fun K14 n14 x14 e14 r14 => ?_
   refine seq_rule fun K15 n15 e15 r15 => ?_
   refine seq_rule fun K16 n16 e16 r16 => ?_
   refine region_rule rfl rfl rfl fun k0 hk0 => ?_
   iterate 2 (refine op_rule fun k hk => ?_; simp; rw [hk])
   obtain ⟨x17, h18, hF⟩ := bind_some hF
   obtain ⟨⟨h18a, h18b⟩, h18c, h18d⟩ := ix_some h18
   have h18r : (p1.map encGFile).getD v9.toNat [] = encGFile x17 := by rw [List.getD_eq_getElem?_getD, List.getElem?_map, show p1[v9.toNat]? = _ from h18d]; rfl
   refine op_rule fun k hk => ?_; simp [h18a, h18b, ↓h18r, encGFile]; rw [hk]
   iterate 2 (refine op_rule fun k hk => ?_; simp; rw [hk])
   obtain ⟨r19, h20, hF⟩ := bind_some hF
   have c21 : call 44 [.str x17.path_] = some (.bool r19, [.undef]) := by rw [hcd]; exact F44_ok n (d + 0) x17.path_ r19 h20
   refine op_rule fun k hk => ?_; simp [c21]; rw [hk]
   refine op_rule fun k hk => ?_; simp; rw [hk]
   refine nil_rule ?_
   rw [hk0]
   rw [n16]
   refine cond_rule rfl (fun hb => ?_) fun hb => ?_
   ·
    have hc35 : (!r19) = true := by first | exact hb | simpa using hb
    rw [if_pos hc35] at hF
    refine seq_rule fun K22 n22 e22 r22 => ?_
    refine region_rule rfl rfl rfl fun k0 hk0 => ?_
    refine op_rule fun k hk => ?_; simp; rw [hk]
    refine nil_rule ?_
    rw [hk0]
    rw [n22]
    refine ret_rule ?_
    obtain rfl := Option.some.inj hF
    rw [r15, r14, r13, hret8, r7, r5, r0]
    simp [Tryz.f13, bytesV_eq, List.map_set]
   ·
    have hc35 : ¬ (!r19) = true := by first | (rw [hb]; simp; done) | simpa using hb
    rw [if_neg hc35] at hF
    refine skip_rule ?_
    rw [n15]
    refine seq_rule fun K23 n23 e23 r23 => ?_
    refine region_rule rfl rfl rfl fun k0 hk0 => ?_
    iterate 3 (refine op_rule fun k hk => ?_; simp; rw [hk])
    refine op_rule fun k hk => ?_
    refine guard_mt (v := .sl 2 f1 (p1.map encGFile)) rfl rfl rfl rfl (fun hb => by first | (simp [hb]; done) | (simp at hb; simp [hb, gv_pos]; done) | (simp (maxSteps := 1000000) [hb, gv_pos]; done)) ?_
    simp
    rw [hk]
    refine op_rule fun k hk => ?_
    refine guard_mt (v := .int .i64 v9) rfl rfl rfl rfl (fun hb => by first | (simp [hb]; done) | (simp at hb; simp [hb, gv_pos]; done) | (simp (maxSteps := 1000000) [hb, gv_pos]; done)) ?_
    simp
    rw [hk]
    refine op_rule fun k hk => ?_
    refine guard_t rfl rfl rfl rfl (fun hg24r => ?_) fun hg24r => ?_
    ·
     have hg24 : (decide (v9 > 0)) = true := by first | exact hg24r | simpa using hg24r
     rw [if_pos hg24] at hF
     obtain ⟨i25, h26, hF⟩ := bind_some hF
     have h26w : IntKind.i64.wrap (v9 - 1) = i25 := by rw [(rng_some h26).2, (rng_some h26).1]
     have hg24n := hg24r
     try simp at hg24n
     simp [hg24r, hg24n, gv_pos, gv_neg, h26w]
     rw [hk]
     obtain ⟨x27, h28, hF⟩ := bind_some hF
     obtain ⟨⟨h28a, h28b⟩, h28c, h28d⟩ := ix_some h28
     have h28r : (p1.map encGFile).getD i25.toNat [] = encGFile x27 := by rw [List.getD_eq_getElem?_getD, List.getElem?_map, show p1[i25.toNat]? = _ from h28d]; rfl
     refine op_rule fun k hk => ?_; simp [h28a, h28b, ↓h28r, encGFile]; rw [hk]
     iterate 4 (refine op_rule fun k hk => ?_; simp; rw [hk])
     refine op_rule fun k hk => ?_; simp [h18a, h18b, ↓h18r, encGFile]; rw [hk]
     iterate 5 (refine op_rule fun k hk => ?_; simp; rw [hk])
     refine nil_rule ?_
     rw [hk0]
     rw [n23]
     refine cond_rule rfl (fun hb => ?_) fun hb => ?_
     ·
      have hc32 : (!(Op.bytesLess x27.path_ x17.path_)) = true := by first | exact hb | simpa using hb
      rw [if_pos hc32] at hF
      refine seq_rule fun K29 n29 e29 r29 => ?_
      refine region_rule rfl rfl rfl fun k0 hk0 => ?_
      refine op_rule fun k hk => ?_; simp; rw [hk]
      refine nil_rule ?_
      rw [hk0]
      rw [n29]
      refine ret_rule ?_
      obtain rfl := Option.some.inj hF
      rw [r14, r13, hret8, r7, r5, r0]
      simp [Tryz.f13, bytesV_eq, List.map_set]
     ·
      have hc32 : ¬ (!(Op.bytesLess x27.path_ x17.path_)) = true := by first | (rw [hb]; simp; done) | simpa using hb
      rw [if_neg hc32] at hF
      refine skip_rule ?_
      rw [n14, n13]
      refine region_rule rfl rfl rfl fun k0 hk0 => ?_
      refine op_rule fun k hk => ?_; simp; rw [hk]
      obtain ⟨i30, h31, hF⟩ := bind_some hF
      have h31w : IntKind.i64.wrap (v9 + 1) = i30 := by rw [(rng_some h31).2, (rng_some h31).1]
      refine op_rule fun k hk => ?_; simp [h31w]; rw [hk]
      refine op_rule fun k hk => ?_; simp; rw [hk]
      refine nil_rule ?_
      rw [hk0]
      refine hnorm8 _ i30 hF ?_
      first | rfl | (simp; done) | (simp [List.map_set, bytesV_eq, encGFile]; done) | (simp [List.map_set, bytesV_eq, encGFile, hg24r]; done)
    ·
     have hg24 : ¬ (decide (v9 > 0)) = true := by first | (rw [hg24r]; simp; done) | simpa using hg24r
     rw [if_neg hg24] at hF
     have hg24n := hg24r
     try simp at hg24n
     simp [hg24r, hg24n, gv_pos, gv_neg]
     rw [hk]
     iterate 11 (refine op_rule fun k hk => ?_; simp; rw [hk])
     refine nil_rule ?_
     rw [hk0]
     rw [n23]
     refine cond_rule rfl (fun hb => by simp at hb) fun hb => ?_
     refine skip_rule ?_
     rw [n14, n13]
     refine region_rule rfl rfl rfl fun k0 hk0 => ?_
     refine op_rule fun k hk => ?_; simp; rw [hk]
     obtain ⟨i33, h34, hF⟩ := bind_some hF
     have h34w : IntKind.i64.wrap (v9 + 1) = i33 := by rw [(rng_some h34).2, (rng_some h34).1]
     refine op_rule fun k hk => ?_; simp [h34w]; rw [hk]
     refine op_rule fun k hk => ?_; simp; rw [hk]
     refine nil_rule ?_
     rw [hk0]
     refine hnorm8 _ i33 hF ?_
     first | rfl | (simp; done) | (simp [List.map_set, bytesV_eq, encGFile]; done) | (simp [List.map_set, bytesV_eq, encGFile, hg24r]; done)
  ·
   have hc62 : ¬ (decide (v9 < (p1.length : Int))) = true := by first | (rw [hb]; simp; done) | simpa using hb
   rw [if_neg hc62] at hF
   refine exit_rule ?_
   rw [e11, hexit8, x7, n5]
   refine seq_rule fun K36 n36 e36 r36 => ?_
   refine seq_rule fun K37 n37 e37 r37 => ?_
   refine region_rule rfl rfl rfl fun k0 hk0 => ?_
   refine op_rule fun k hk => ?_; simp; rw [hk]
   refine nil_rule ?_
   rw [hk0]
   rw [n37]
   refine block_rule fun K38 n38 x38 e38 r38 => ?_
   refine loop_rule ?_
   rw [hL]
   refine loop_F 11 [0, 4] rfl rfl (fun b : Int => [.sl 2 f1 (p1.map encGFile), .undef, .undef, .undef, .int .i64 b, .undef, .undef, .undef, .undef, .undef, .undef, .undef, .undef, .undef, .undef, .undef, .undef, .undef, .undef, .undef, .undef, .undef, .undef, .undef, .undef, .undef, .undef, .undef, .undef, .undef, .undef, .undef, .undef, .undef, .undef, .undef, .undef, .undef, .undef, .undef, .undef, .undef, .undef, .undef, .undef, .undef, .undef, .undef, .undef, .undef, .undef, .undef, .undef, .undef, .undef, .undef, .undef]) (fun m b => F13_L39 n p1 m b = some rs) (fun b h => by simp [F13_L39] at h) ?_ n 0 _ hF (by first | rfl | (simp; done) | (simp [List.map_set, bytesV_eq, encGFile]; done))
   rintro m39 v40 hF L39 hL39 K'39 hnorm39 hexit39 hret39
   replace hF : F13_L39 n p1 (m39 + 1) v40 = some rs := hF
   rw [F13_L39] at hF
   refine seq_rule fun K42 n42 e42 r42 => ?_
   refine seq_rule fun K43 n43 e43 r43 => ?_
   refine region_keep rfl rfl rfl rfl fun k0 hk0 => ?_
   iterate 4 (refine op_rule fun k hk => ?_; simp; rw [hk])
   refine nil_rule ?_
   rw [hk0]
   rw [n43]
   refine cond_rule rfl (fun hb => ?_) fun hb => ?_
   ·
    have hc60 : (decide (v40 < (p1.length : Int))) = true := by first | exact hb | simpa using hb
    rw [if_pos hc60] at hF
    refine skip_rule ?_
    rw [n42]
    refine seq_rule fun K44 n44 e44 r44 => ?_
    refine block_rule fun K45 n45 x45 e45 r45 => ?_
    refine seq_rule fun K46 n46 e46 r46 => ?_
    refine region_rule rfl rfl rfl fun k0 hk0 => ?_
    iterate 2 (refine op_rule fun k hk => ?_; simp; rw [hk])
    obtain ⟨x47, h48, hF⟩ := bind_some hF
    obtain ⟨⟨h48a, h48b⟩, h48c, h48d⟩ := ix_some h48
    have h48r : (p1.map encGFile).getD v40.toNat [] = encGFile x47 := by rw [List.getD_eq_getElem?_getD, List.getElem?_map, show p1[v40.toNat]? = _ from h48d]; rfl
    refine op_rule fun k hk => ?_; simp [h48a, h48b, ↓h48r, encGFile]; rw [hk]
    iterate 2 (refine op_rule fun k hk => ?_; simp; rw [hk])
    obtain ⟨r49, h50, hF⟩ := bind_some hF
    have c51 : call 45 [.sl 1 false (x47.text_.map encB)] = some (.int .i64 r49, [.undef]) := by rw [hcd]; exact F45_ok n (d + 0) x47.text_ r49 h50
    refine op_rule fun k hk => ?_; simp [c51]; rw [hk]
    refine op_rule fun k hk => ?_; simp; rw [hk]
    refine nil_rule ?_
    rw [hk0]
    rw [n46]
    refine cond_rule rfl (fun hb => ?_) fun hb => ?_
    ·
     have hc58 : (r49 != 0) = true := by first | exact hb | simpa using hb
     rw [if_pos hc58] at hF
     refine seq_rule fun K52 n52 e52 r52 => ?_
     refine region_rule rfl rfl rfl fun k0 hk0 => ?_
     iterate 2 (refine op_rule fun k hk => ?_; simp; rw [hk])
     refine op_rule fun k hk => ?_; simp [h48a, h48b, ↓h48r, encGFile]; rw [hk]
     iterate 2 (refine op_rule fun k hk => ?_; simp; rw [hk])
     obtain ⟨r53, h54, hF⟩ := bind_some hF
     have c55 : call 45 [.sl 1 false (x47.text_.map encB)] = some (.int .i64 r53, [.undef]) := by rw [hcd]; exact F45_ok n (d + 0) x47.text_ r53 h54
     refine op_rule fun k hk => ?_; simp [c55]; rw [hk]
     refine op_rule fun k hk => ?_; simp; rw [hk]
     refine nil_rule ?_
     rw [hk0]
     rw [n52]
     refine ret_rule ?_
     obtain rfl := Option.some.inj hF
     rw [r45, r44, hret39, r38, r36, r0]
     simp [Tryz.f13, bytesV_eq, List.map_set]
    ·
     have hc58 : ¬ (r49 != 0) = true := by first | (rw [hb]; simp; done) | simpa using hb
     rw [if_neg hc58] at hF
     refine skip_rule ?_
     rw [n45, n44]
     refine region_rule rfl rfl rfl fun k0 hk0 => ?_
     refine op_rule fun k hk => ?_; simp; rw [hk]
     obtain ⟨i56, h57, hF⟩ := bind_some hF
     have h57w : IntKind.i64.wrap (v40 + 1) = i56 := by rw [(rng_some h57).2, (rng_some h57).1]
     refine op_rule fun k hk => ?_; simp [h57w]; rw [hk]
     refine op_rule fun k hk => ?_; simp; rw [hk]
     refine nil_rule ?_
     rw [hk0]
     refine hnorm39 _ i56 hF ?_
     first | rfl | (simp; done) | (simp [List.map_set, bytesV_eq, encGFile]; done)
   ·
    have hc60 : ¬ (decide (v40 < (p1.length : Int))) = true := by first | (rw [hb]; simp; done) | simpa using hb
    rw [if_neg hc60] at hF
    refine exit_rule ?_
    rw [e42, hexit39, x38, n36]
    refine seq_rule fun K59 n59 e59 r59 => ?_
    refine region_rule rfl rfl rfl fun k0 hk0 => ?_
    refine op_rule fun k hk => ?_; simp; rw [hk]
    refine nil_rule ?_
    rw [hk0]
    rw [n59]
    refine ret_rule ?_
    obtain rfl := Option.some.inj hF
    rw [r0]
    simp [Tryz.f13, bytesV_eq, List.map_set]
theorem F8_ok (n d : Nat) {f1 : Bool} {f2 : Bool} (p1 : List GFile) (p2 : List GFile) (rs : Bool) (hF : F8 n p1 p2 = some rs) : callD tab prims n (d + 4) 8 [.sl 2 f1 (p1.map encGFile), .sl 2 f2 (p2.map encGFile)] = some (.bool rs, [.undef, .undef]) := by
 obtain ⟨call, hcd⟩ : ∃ call, call = callD tab prims n (d + 3) := ⟨_, rfl⟩
 refine call_rule (d := d + 3) (N8 _) rfl ?_
 rw [← hcd]
 show runBody (envOf tab fi8 call) n Tryz.f8 (codeOf Tryz.f8) [.sl 2 f1 (p1.map encGFile), .sl 2 f2 (p2.map encGFile)] = some (.bool rs, [.undef, .undef])
 unfold F8 at hF
 refine body_rule rfl rfl fun L hL K0 n0 r0 => ?_
 refine seq_rule fun K1 n1 e1 r1 => ?_
 refine region_rule rfl rfl rfl fun k0 hk0 => ?_
 refine op_rule fun k hk => ?_; simp; rw [hk]
 refine nil_rule ?_
 rw [hk0]
 rw [n1]
 refine seq_rule fun K2 n2 e2 r2 => ?_
 refine region_rule rfl rfl rfl fun k0 hk0 => ?_
 refine op_rule fun k hk => ?_; simp; rw [hk]
 obtain ⟨r3, h4, hF⟩ := bind_some hF
 have c5 : call 37 [.sl 2 f1 (p1.map encGFile)] = some (.bool r3, [.undef]) := by rw [hcd]; exact F37_ok n (d + 2) p1 r3 h4
 refine op_rule fun k hk => ?_; simp [c5]; rw [hk]
 iterate 2 (refine op_rule fun k hk => ?_; simp; rw [hk])
 refine op_rule fun k hk => ?_
 refine guard_mt (v := .sl 2 f2 (p2.map encGFile)) rfl rfl rfl rfl (fun hb => by first | (simp [hb]; done) | (simp at hb; simp [hb, gv_pos]; done) | (simp (maxSteps := 1000000) [hb, gv_pos]; done)) ?_
 simp
 rw [hk]
 refine op_rule fun k hk => ?_
 refine guard_t rfl rfl rfl rfl (fun hg6r => ?_) fun hg6r => ?_
 ·
  have hg6 : (!r3) = true := by first | exact hg6r | simpa using hg6r
  rw [if_pos hg6] at hF
  obtain ⟨r7, h8, hF⟩ := bind_some hF
  have c9 : call 37 [.sl 2 f2 (p2.map encGFile)] = some (.bool r7, [.undef]) := by rw [hcd]; exact F37_ok n (d + 2) p2 r7 h8
  have hg6n := hg6r
  try simp at hg6n
  simp [hg6r, hg6n, gv_pos, gv_neg, c9]
  rw [hk]
  iterate 3 (refine op_rule fun k hk => ?_; simp; rw [hk])
  refine op_rule fun k hk => ?_
  refine guard_mt (v := .sl 2 f1 (p1.map encGFile)) rfl rfl rfl rfl (fun hb => by first | (simp [hb]; done) | (simp at hb; simp [hb, gv_pos]; done) | (simp (maxSteps := 1000000) [hb, gv_pos]; done)) ?_
  simp
  rw [hk]
  refine op_rule fun k hk => ?_
  refine guard_t rfl rfl rfl rfl (fun hg10r => ?_) fun hg10r => ?_
  ·
   have hg10 : (!r7) = true := by first | exact hg10r | simpa using hg10r
   rw [if_pos hg10] at hF
   obtain ⟨r11, h12, hF⟩ := bind_some hF
   have c13 : call 13 [.sl 2 f1 (p1.map encGFile)] = some (.int .i64 r11, [.undef]) := by rw [hcd]; exact F13_ok n (d + 0) p1 r11 h12
   have hg10n := hg10r
   try simp at hg10n
   simp [hg10r, hg10n, gv_pos, gv_neg, c13]
   rw [hk]
   iterate 3 (refine op_rule fun k hk => ?_; simp; rw [hk])
   refine op_rule fun k hk => ?_
   refine guard_mt (v := .sl 2 f2 (p2.map encGFile)) rfl rfl rfl rfl (fun hb => by first | (simp [hb]; done) | (simp at hb; simp [hb, gv_pos]; done) | (simp (maxSteps := 1000000) [hb, gv_pos]; done)) ?_
   simp
   rw [hk]
   refine op_rule fun k hk => ?_
   refine guard_t rfl rfl rfl rfl (fun hg14r => ?_) fun hg14r => ?_
   ·
    have hg14 : (r11 == 0) = true := by first | exact hg14r | simpa using hg14r
    rw [if_pos hg14] at hF
    obtain ⟨r15, h16, hF⟩ := bind_some hF
    have c17 : call 13 [.sl 2 f2 (p2.map encGFile)] = some (.int .i64 r15, [.undef]) := by rw [hcd]; exact F13_ok n (d + 0) p2 r15 h16
    simp [hg14r, c17]
    rw [hk]
    iterate 3 (refine op_rule fun k hk => ?_; simp; rw [hk])
    refine nil_rule ?_
    rw [hk0]
    rw [n2]
    refine ret_rule ?_
    obtain rfl := Option.some.inj hF
    rw [r0]
    simp [Tryz.f8, bytesV_eq, List.map_set]
   ·
    have hg14 : ¬ (r11 == 0) = true := by first | (rw [hg14r]; simp; done) | simpa using hg14r
    rw [if_neg hg14] at hF
    have hg14n := hg14r
    try simp at hg14n
    simp [hg14r, hg14n, gv_pos, gv_neg]
    rw [hk]
    iterate 3 (refine op_rule fun k hk => ?_; simp; rw [hk])
    refine nil_rule ?_
    rw [hk0]
    rw [n2]
    refine ret_rule ?_
    obtain rfl := Option.some.inj hF
    rw [r0]
    simp [Tryz.f8, bytesV_eq, List.map_set]
  ·
   have hg10 : ¬ (!r7) = true := by first | (rw [hg10r]; simp; done) | simpa using hg10r
   rw [if_neg hg10] at hF
   have hg10n := hg10r
   try simp at hg10n
   simp [hg10r, hg10n, gv_pos, gv_neg]
   rw [hk]
   iterate 8 (refine op_rule fun k hk => ?_; simp; rw [hk])
   refine nil_rule ?_
   rw [hk0]
   rw [n2]
   refine ret_rule ?_
   obtain rfl := Option.some.inj hF
   rw [r0]
   simp [Tryz.f8, bytesV_eq, List.map_set]
 ·
  have hg6 : ¬ (!r3) = true := by first | (rw [hg6r]; simp; done) | simpa using hg6r
  rw [if_neg hg6] at hF
  have hg6n := hg6r
  try simp at hg6n
  simp [hg6r, hg6n, gv_pos, gv_neg]
  rw [hk]
  iterate 13 (refine op_rule fun k hk => ?_; simp; rw [hk])
  refine nil_rule ?_
  rw [hk0]
  rw [n2]
  refine ret_rule ?_
  obtain rfl := Option.some.inj hF
  rw [r0]
  simp [Tryz.f8, bytesV_eq, List.map_set]
theorem F52_ok (n d : Nat) {f1 : Bool} {f2 : Bool} (p1 : List UInt8) (p2 : Bool) (p3 : Bool) (p4 : List GHunk) (p5 : List UInt8) (p6 : Bool) (p7 : Bool) (p8 : List GHunk) (rs : Bool) (hF : F52 n p1 p2 p3 p4 p5 p6 p7 p8 = some rs) : callD tab prims n (d + 1) 52 [.agg [.str p1, .bool p2, .bool p3, .sl 3 f1 (p4.map encGHunk)], .iptr [.str p5, .bool p6, .bool p7, .sl 3 f2 (p8.map encGHunk)] 0] = some (.bool rs, [.undef, .undef]) := by
 obtain ⟨call, hcd⟩ : ∃ call, call = callD tab prims n (d + 0) := ⟨_, rfl⟩
 refine call_rule (d := d + 0) (N52 _) rfl ?_
 rw [← hcd]
 show runBody (envOf tab fi52 call) n Tryz.f52 (codeOf Tryz.f52) [.agg [.str p1, .bool p2, .bool p3, .sl 3 f1 (p4.map encGHunk)], .iptr [.str p5, .bool p6, .bool p7, .sl 3 f2 (p8.map encGHunk)] 0] = some (.bool rs, [.undef, .undef])
 unfold F52 at hF
 refine body_rule rfl rfl fun L hL K0 n0 r0 => ?_
 refine seq_rule fun K1 n1 e1 r1 => ?_
 refine region_rule rfl rfl rfl fun k0 hk0 => ?_
 iterate 2 (refine op_rule fun k hk => ?_; simp; rw [hk])
 refine nil_rule ?_
 rw [hk0]
 rw [n1]
 refine seq_rule fun K2 n2 e2 r2 => ?_
 refine region_rule rfl rfl rfl fun k0 hk0 => ?_
 iterate 6 (refine op_rule fun k hk => ?_; simp; rw [hk])
 refine nil_rule ?_
 rw [hk0]
 rw [n2]
 refine ret_rule ?_
 obtain rfl := Option.some.inj hF
 rw [r0]
 simp [Tryz.f52, bytesV_eq, List.map_set]
theorem F87_ok (n d : Nat) {f1 : Bool} {f2 : Bool} (p1 : List GPatch) (p2 : List UInt8) (p3 : Bool) (p4 : Bool) (p5 : List GHunk) (rs : Int) (hF : F87 n p1 p2 p3 p4 p5 = some rs) : callD tab prims n (d + 2) 87 [.sl 4 f1 (p1.map encGPatch), .fn 52 [.iptr [.str p2, .bool p3, .bool p4, .sl 3 f2 (p5.map encGHunk)] 0]] = some (.int .i64 rs, [.undef, .undef]) := by
 obtain ⟨call, hcd⟩ : ∃ call, call = callD tab prims n (d + 1) := ⟨_, rfl⟩
 refine call_rule (d := d + 1) (N87 _) rfl ?_
 rw [← hcd]
 show runBody (envOf tab fi87 call) n Tryz.f87 (codeOf Tryz.f87) [.sl 4 f1 (p1.map encGPatch), .fn 52 [.iptr [.str p2, .bool p3, .bool p4, .sl 3 f2 (p5.map encGHunk)] 0]] = some (.int .i64 rs, [.undef, .undef])
 unfold F87 at hF
 refine body_rule rfl rfl fun L hL K0 n0 r0 => ?_
 refine seq_rule fun K1 n1 e1 r1 => ?_
 refine region_rule rfl rfl rfl fun k0 hk0 => ?_
 refine op_rule fun k hk => ?_; simp; rw [hk]
 refine nil_rule ?_
 rw [hk0]
 rw [n1]
 refine seq_rule fun K2 n2 e2 r2 => ?_
 refine seq_rule fun K3 n3 e3 r3 => ?_
 refine region_rule rfl rfl rfl fun k0 hk0 => ?_
 iterate 3 (refine op_rule fun k hk => ?_; simp; rw [hk])
 refine nil_rule ?_
 rw [hk0]
 rw [n3]
 refine block_rule fun K4 n4 x4 e4 r4 => ?_
 refine loop_rule ?_
 rw [hL]
 refine loop_F 2 [0, 1, 7, 8] rfl rfl (fun b : Int => [.sl 4 f1 (p1.map encGPatch), .fn 52 [.iptr [.str p2, .bool p3, .bool p4, .sl 3 f2 (p5.map encGHunk)] 0], .undef, .undef, .undef, .undef, .undef, .int .i64 (p1.length : Int), .int .i64 b, .undef, .undef, .undef, .undef, .undef, .undef, .undef, .undef, .undef, .undef]) (fun m b => F87_L5 n p1 p2 p3 p4 p5 m b = some rs) (fun b h => by simp [F87_L5] at h) ?_ n 0 _ hF (by first | rfl | (simp; done) | (simp [List.map_set, bytesV_eq, encGPatch]; done))
 rintro m5 v6 hF L5 hL5 K'5 hnorm5 hexit5 hret5
 replace hF : F87_L5 n p1 p2 p3 p4 p5 (m5 + 1) v6 = some rs := hF
 rw [F87_L5] at hF
 refine seq_rule fun K8 n8 e8 r8 => ?_
 refine region_keep rfl rfl rfl rfl fun k0 hk0 => ?_
 refine op_rule fun k hk => ?_; simp; rw [hk]
 refine nil_rule ?_
 rw [hk0]
 rw [n8]
 refine seq_rule fun K9 n9 e9 r9 => ?_
 refine cond_rule rfl (fun hb => ?_) fun hb => ?_
 ·
  have hc24 : (decide (v6 < (p1.length : Int))) = true := by first | exact hb | simpa using hb
  rw [if_pos hc24] at hF
  refine skip_rule ?_
  rw [n9]
  refine seq_rule fun K10 n10 e10 r10 => ?_
  refine block_rule fun K11 n11 x11 e11 r11 => ?_
  refine seq_rule fun K12 n12 e12 r12 => ?_
  refine region_rule rfl rfl rfl fun k0 hk0 => ?_
  iterate 2 (refine op_rule fun k hk => ?_; simp; rw [hk])
  refine nil_rule ?_
  rw [hk0]
  rw [n12]
  refine seq_rule fun K13 n13 e13 r13 => ?_
  refine region_rule rfl rfl rfl fun k0 hk0 => ?_
  iterate 3 (refine op_rule fun k hk => ?_; simp; rw [hk])
  obtain ⟨x14, h15, hF⟩ := bind_some hF
  obtain ⟨⟨h15a, h15b⟩, h15c, h15d⟩ := ix_some h15
  have h15r : (p1.map encGPatch).getD v6.toNat [] = encGPatch x14 := by rw [List.getD_eq_getElem?_getD, List.getElem?_map, show p1[v6.toNat]? = _ from h15d]; rfl
  refine op_rule fun k hk => ?_; simp [h15a, h15b, ↓h15r, encGPatch]; rw [hk]
  refine op_rule fun k hk => ?_; simp [List.range_succ]; rw [hk]
  obtain ⟨r16, h17, hF⟩ := bind_some hF
  have c18 : call 52 [.agg [.str x14.path_, .bool x14.was_, .bool x14.stays_, .sl 3 false (x14.hunks_.map encGHunk)], .iptr [.str p2, .bool p3, .bool p4, .sl 3 f2 (p5.map encGHunk)] 0] = some (.bool r16, [.undef, .undef]) := by rw [hcd]; exact F52_ok n (d + 0) x14.path_ x14.was_ x14.stays_ x14.hunks_ p2 p3 p4 p5 r16 h17
  refine op_rule fun k hk => ?_; simp [c18]; rw [hk]
  refine nil_rule ?_
  rw [hk0]
  rw [n13]
  refine cond_rule rfl (fun hb => ?_) fun hb => ?_
  ·
   have hc22 : r16 = true := by first | exact hb | simpa using hb
   rw [if_pos hc22] at hF
   refine seq_rule fun K19 n19 e19 r19 => ?_
   refine region_rule rfl rfl rfl fun k0 hk0 => ?_
   iterate 2 (refine op_rule fun k hk => ?_; simp; rw [hk])
   refine nil_rule ?_
   rw [hk0]
   rw [n19]
   refine ret_rule ?_
   obtain rfl := Option.some.inj hF
   rw [r11, r10, hret5, r4, r2, r0]
   simp [Tryz.f87, bytesV_eq, List.map_set]
  ·
   have hc22 : ¬ r16 = true := by first | (rw [hb]; simp; done) | simpa using hb
   rw [if_neg hc22] at hF
   refine skip_rule ?_
   rw [n11, n10]
   refine region_rule rfl rfl rfl fun k0 hk0 => ?_
   obtain ⟨i20, h21, hF⟩ := bind_some hF
   have h21w : IntKind.i64.wrap (v6 + 1) = i20 := by rw [(rng_some h21).2, (rng_some h21).1]
   refine op_rule fun k hk => ?_; simp [h21w]; rw [hk]
   refine op_rule fun k hk => ?_; simp; rw [hk]
   refine nil_rule ?_
   rw [hk0]
   refine hnorm5 _ i20 hF ?_
   first | rfl | (simp; done) | (simp [List.map_set, bytesV_eq, encGPatch]; done)
 ·
  have hc24 : ¬ (decide (v6 < (p1.length : Int))) = true := by first | (rw [hb]; simp; done) | simpa using hb
  rw [if_neg hc24] at hF
  refine exit_rule ?_
  rw [e9, hexit5, x4, n2]
  refine seq_rule fun K23 n23 e23 r23 => ?_
  refine region_rule rfl rfl rfl fun k0 hk0 => ?_
  refine op_rule fun k hk => ?_; simp; rw [hk]
  refine nil_rule ?_
  rw [hk0]
  rw [n23]
  refine ret_rule ?_
  obtain rfl := Option.some.inj hF
  rw [r0]
  simp [Tryz.f87, bytesV_eq, List.map_set]
theorem F51_ok (n d : Nat) {f1 : Bool} {f2 : Bool} (p1 : List GPatch) (p2 : List UInt8) (p3 : Bool) (p4 : Bool) (p5 : List GHunk) (rs : Bool) (hF : F51 n p1 p2 p3 p4 p5 = some rs) : callD tab prims n (d + 3) 51 [.sl 4 f1 (p1.map encGPatch), .fn 52 [.iptr [.str p2, .bool p3, .bool p4, .sl 3 f2 (p5.map encGHunk)] 0]] = some (.bool rs, [.undef, .undef]) := by
 obtain ⟨call, hcd⟩ : ∃ call, call = callD tab prims n (d + 2) := ⟨_, rfl⟩
 refine call_rule (d := d + 2) (N51 _) rfl ?_
 rw [← hcd]
 show runBody (envOf tab fi51 call) n Tryz.f51 (codeOf Tryz.f51) [.sl 4 f1 (p1.map encGPatch), .fn 52 [.iptr [.str p2, .bool p3, .bool p4, .sl 3 f2 (p5.map encGHunk)] 0]] = some (.bool rs, [.undef, .undef])
 unfold F51 at hF
 refine body_rule rfl rfl fun L hL K0 n0 r0 => ?_
 refine seq_rule fun K1 n1 e1 r1 => ?_
 refine region_rule rfl rfl rfl fun k0 hk0 => ?_
 refine op_rule fun k hk => ?_; simp; rw [hk]
 refine nil_rule ?_
 rw [hk0]
 rw [n1]
 refine seq_rule fun K2 n2 e2 r2 => ?_
 refine region_rule rfl rfl rfl fun k0 hk0 => ?_
 iterate 2 (refine op_rule fun k hk => ?_; simp; rw [hk])
 obtain ⟨r3, h4, hF⟩ := bind_some hF
 have c5 : call 87 [.sl 4 f1 (p1.map encGPatch), .fn 52 [.iptr [.str p2, .bool p3, .bool p4, .sl 3 f2 (p5.map encGHunk)] 0]] = some (.int .i64 r3, [.undef, .undef]) := by rw [hcd]; exact F87_ok n (d + 0) p1 p2 p3 p4 p5 r3 h4
 refine op_rule fun k hk => ?_; simp [c5]; rw [hk]
 iterate 2 (refine op_rule fun k hk => ?_; simp; rw [hk])
 refine nil_rule ?_
 rw [hk0]
 rw [n2]
 refine ret_rule ?_
 obtain rfl := Option.some.inj hF
 rw [r0]
 simp [Tryz.f51, bytesV_eq, List.map_set]
theorem F222_ok (n d : Nat) (p1 : List UInt8) (p2 : Int) (rs : Int) (hF : F222 n p1 p2 = some rs) : callD tab prims n (d + 2) 222 [.str p1, .int .u8 p2] = some (.int .i64 rs, [.undef, .undef]) := by
 obtain ⟨call, hcd⟩ : ∃ call, call = callD tab prims n (d + 1) := ⟨_, rfl⟩
 refine call_rule (d := d + 1) (N222 _) rfl ?_
 rw [← hcd]
 show runBody (envOf tab fi222 call) n Tryz.f222 (codeOf Tryz.f222) [.str p1, .int .u8 p2] = some (.int .i64 rs, [.undef, .undef])
 unfold F222 at hF
 refine body_rule rfl rfl fun L hL K0 n0 r0 => ?_
 refine seq_rule fun K1 n1 e1 r1 => ?_
 refine region_rule rfl rfl rfl fun k0 hk0 => ?_
 refine op_rule fun k hk => ?_; simp; rw [hk]
 refine nil_rule ?_
 rw [hk0]
 rw [n1]
 refine seq_rule fun K2 n2 e2 r2 => ?_
 refine region_rule rfl rfl rfl fun k0 hk0 => ?_
 iterate 2 (refine op_rule fun k hk => ?_; simp; rw [hk])
 have c5 : call 234 [.str p1, .int .u8 p2] = some (.int .i64 (idx8 p2.toNat.toUInt8 p1 0), [.undef, .undef]) := by rw [hcd]; exact P234 n (d + 0) p1 p2 
 refine op_rule fun k hk => ?_; simp [c5]; rw [hk]
 refine op_rule fun k hk => ?_; simp; rw [hk]
 refine nil_rule ?_
 rw [hk0]
 rw [n2]
 refine ret_rule ?_
 obtain rfl := Option.some.inj hF
 rw [r0]
 simp [Tryz.f222, bytesV_eq, List.map_set]
theorem F221_ok (n d : Nat) (p1 : List UInt8) (p2 : List UInt8) (rs : Int) (hF : F221 n p1 p2 = some rs) : callD tab prims n (d + 3) 221 [.str p1, .str p2] = some (.int .i64 rs, [.undef, .undef]) := by
 obtain ⟨call, hcd⟩ : ∃ call, call = callD tab prims n (d + 2) := ⟨_, rfl⟩
 refine call_rule (d := d + 2) (N221 _) rfl ?_
 rw [← hcd]
 show runBody (envOf tab fi221 call) n Tryz.f221 (codeOf Tryz.f221) [.str p1, .str p2] = some (.int .i64 rs, [.undef, .undef])
 unfold F221 at hF
 refine body_rule rfl rfl fun L hL K0 n0 r0 => ?_
 refine seq_rule fun K1 n1 e1 r1 => ?_
 refine region_rule rfl rfl rfl fun k0 hk0 => ?_
 refine op_rule fun k hk => ?_; simp; rw [hk]
 refine nil_rule ?_
 rw [hk0]
 rw [n1]
 refine seq_rule fun K2 n2 e2 r2 => ?_
 refine region_rule rfl rfl rfl fun k0 hk0 => ?_
 iterate 3 (refine op_rule fun k hk => ?_; simp; rw [hk])
 refine nil_rule ?_
 rw [hk0]
 rw [n2]
 refine seq_rule fun K3 n3 e3 r3 => ?_
 refine block_rule fun K4 n4 x4 e4 r4 => ?_
 refine seq_rule fun K5 n5 e5 r5 => ?_
 refine region_rule rfl rfl rfl fun k0 hk0 => ?_
 iterate 3 (refine op_rule fun k hk => ?_; simp; rw [hk])
 refine op_rule fun k hk => ?_
 refine guard_mf (v := .str p2) rfl rfl rfl rfl (fun hb => by first | (simp [hb]; done) | (simp at hb; simp [hb, gv_pos]; done) | (simp (maxSteps := 1000000) [hb, gv_pos]; done)) ?_
 simp
 rw [hk]
 refine op_rule fun k hk => ?_
 refine guard_mf (v := .str p1) rfl rfl rfl rfl (fun hb => by first | (simp [hb]; done) | (simp at hb; simp [hb, gv_pos]; done) | (simp (maxSteps := 1000000) [hb, gv_pos]; done)) ?_
 simp
 rw [hk]
 refine op_rule fun k hk => ?_
 refine guard_mf (v := .bool (p2 == p1)) rfl rfl rfl rfl (fun hb => by first | (simp [hb]; done) | (simp at hb; simp [hb, gv_pos]; done) | (simp (maxSteps := 1000000) [hb, gv_pos]; done)) ?_
 simp
 rw [hk]
 refine op_rule fun k hk => ?_
 refine pick_or (y := (p2 == p1)) rfl (unbarred_none rfl) rfl rfl rfl (fun hx => by first | rfl | (simp [hx]; done) | (simp at hx; simp [hx, gv_pos]; done) | (simp (maxSteps := 1000000) [hx, gv_pos]; done)) ?_
 simp
 rw [hk]
 refine op_rule fun k hk => ?_; simp; rw [hk]
 refine nil_rule ?_
 rw [hk0]
 rw [n5]
 refine cond_rule rfl (fun hb => ?_) fun hb => ?_
 ·
  have hc19 : (((p2.length : Int) == 0) || (p2 == p1)) = true := by first | exact hb | simpa using hb
  rw [if_pos hc19] at hF
  refine seq_rule fun K6 n6 e6 r6 => ?_
  refine region_rule rfl rfl rfl fun k0 hk0 => ?_
  refine op_rule fun k hk => ?_; simp; rw [hk]
  refine nil_rule ?_
  rw [hk0]
  rw [n6]
  refine ret_rule ?_
  obtain rfl := Option.some.inj hF
  rw [r4, r3, r0]
  simp [Tryz.f221, bytesV_eq, List.map_set]
 ·
  have hc19 : ¬ (((p2.length : Int) == 0) || (p2 == p1)) = true := by first | (rw [hb]; simp; done) | simpa using hb
  rw [if_neg hc19] at hF
  refine seq_rule fun K7 n7 e7 r7 => ?_
  refine region_rule rfl rfl rfl fun k0 hk0 => ?_
  iterate 3 (refine op_rule fun k hk => ?_; simp; rw [hk])
  refine nil_rule ?_
  rw [hk0]
  rw [n7]
  refine cond_rule rfl (fun hb => ?_) fun hb => ?_
  ·
   have hc18 : ((p2.length : Int) == 1) = true := by first | exact hb | simpa using hb
   rw [if_pos hc18] at hF
   refine seq_rule fun K8 n8 e8 r8 => ?_
   refine region_rule rfl rfl rfl fun k0 hk0 => ?_
   iterate 2 (refine op_rule fun k hk => ?_; simp; rw [hk])
   obtain ⟨x9, h10, hF⟩ := bind_some hF
   obtain ⟨⟨h10a, h10b⟩, h10c, h10d⟩ := ix_some h10
   try simp at h10b
   have h10r : (p2.map encB).getD (Int.toNat 0) [] = encB x9 := by rw [List.getD_eq_getElem?_getD, List.getElem?_map, show p2[(Int.toNat 0)]? = _ from h10d]; rfl
   have h10ru : p2.getD (Int.toNat 0) 0 = x9 := by rw [List.getD_eq_getElem?_getD, show p2[(Int.toNat 0)]? = _ from h10d]; rfl
   have h10s : (p2.map encB).getD 0 [] = encB x9 := by rw [List.getD_eq_getElem?_getD, List.getElem?_map, show p2[0]? = _ from h10d]; rfl
   have h10su : p2.getD 0 0 = x9 := by rw [List.getD_eq_getElem?_getD, show p2[0]? = _ from h10d]; rfl
   refine op_rule fun k hk => ?_; simp [h10a, h10b, ↓h10r, ↓h10ru, ↓h10s, ↓h10su]; rw [hk]
   obtain ⟨r11, h12, hF⟩ := bind_some hF
   have c13 : call 222 [.str p1, .int .u8 (x9.toNat : Int)] = some (.int .i64 r11, [.undef, .undef]) := by rw [hcd]; exact F222_ok n (d + 0) p1 (x9.toNat : Int) r11 h12
   refine op_rule fun k hk => ?_; simp [c13]; rw [hk]
   refine op_rule fun k hk => ?_; simp; rw [hk]
   refine nil_rule ?_
   rw [hk0]
   rw [n8]
   refine ret_rule ?_
   obtain rfl := Option.some.inj hF
   rw [r4, r3, r0]
   simp [Tryz.f221, bytesV_eq, List.map_set]
  ·
   have hc18 : ¬ ((p2.length : Int) == 1) = true := by first | (rw [hb]; simp; done) | simpa using hb
   rw [if_neg hc18] at hF
   refine seq_rule fun K14 n14 e14 r14 => ?_
   refine region_rule rfl rfl rfl fun k0 hk0 => ?_
   iterate 5 (refine op_rule fun k hk => ?_; simp; rw [hk])
   refine nil_rule ?_
   rw [hk0]
   rw [n14]
   refine cond_rule rfl (fun hb => ?_) fun hb => ?_
   ·
    have hc17 : (decide ((p2.length : Int) ≥ (p1.length : Int))) = true := by first | exact hb | simpa using hb
    rw [if_pos hc17] at hF
    refine seq_rule fun K15 n15 e15 r15 => ?_
    refine region_rule rfl rfl rfl fun k0 hk0 => ?_
    refine op_rule fun k hk => ?_; simp; rw [hk]
    refine nil_rule ?_
    rw [hk0]
    rw [n15]
    refine ret_rule ?_
    obtain rfl := Option.some.inj hF
    rw [r4, r3, r0]
    simp [Tryz.f221, bytesV_eq, List.map_set]
   ·
    have hc17 : ¬ (decide ((p2.length : Int) ≥ (p1.length : Int))) = true := by first | (rw [hb]; simp; done) | simpa using hb
    rw [if_neg hc17] at hF
    refine seq_rule fun K16 n16 e16 r16 => ?_
    refine region_rule rfl rfl rfl fun k0 hk0 => ?_
    refine op_rule fun k hk => ?_; simp; rw [hk]
    cases hF
theorem F198_ok (n d : Nat) (p1 : List UInt8) (p2 : List UInt8) (rs : Int) (hF : F198 n p1 p2 = some rs) : callD tab prims n (d + 4) 198 [.str p1, .str p2] = some (.int .i64 rs, [.undef, .undef]) := by
 obtain ⟨call, hcd⟩ : ∃ call, call = callD tab prims n (d + 3) := ⟨_, rfl⟩
 refine call_rule (d := d + 3) (N198 _) rfl ?_
 rw [← hcd]
 show runBody (envOf tab fi198 call) n Tryz.f198 (codeOf Tryz.f198) [.str p1, .str p2] = some (.int .i64 rs, [.undef, .undef])
 unfold F198 at hF
 refine body_rule rfl rfl fun L hL K0 n0 r0 => ?_
 refine seq_rule fun K1 n1 e1 r1 => ?_
 refine region_rule rfl rfl rfl fun k0 hk0 => ?_
 refine op_rule fun k hk => ?_; simp; rw [hk]
 refine nil_rule ?_
 rw [hk0]
 rw [n1]
 refine seq_rule fun K2 n2 e2 r2 => ?_
 refine region_rule rfl rfl rfl fun k0 hk0 => ?_
 iterate 2 (refine op_rule fun k hk => ?_; simp; rw [hk])
 obtain ⟨r3, h4, hF⟩ := bind_some hF
 have c5 : call 221 [.str p1, .str p2] = some (.int .i64 r3, [.undef, .undef]) := by rw [hcd]; exact F221_ok n (d + 0) p1 p2 r3 h4
 refine op_rule fun k hk => ?_; simp [c5]; rw [hk]
 refine op_rule fun k hk => ?_; simp; rw [hk]
 refine nil_rule ?_
 rw [hk0]
 rw [n2]
 refine ret_rule ?_
 obtain rfl := Option.some.inj hF
 rw [r0]
 simp [Tryz.f198, bytesV_eq, List.map_set]
theorem F197_ok (n d : Nat) (p1 : List UInt8) (p2 : List UInt8) (rs : Int) (hF : F197 n p1 p2 = some rs) : callD tab prims n (d + 5) 197 [.str p1, .str p2] = some (.int .i64 rs, [.undef, .undef]) := by
 obtain ⟨call, hcd⟩ : ∃ call, call = callD tab prims n (d + 4) := ⟨_, rfl⟩
 refine call_rule (d := d + 4) (N197 _) rfl ?_
 rw [← hcd]
 show runBody (envOf tab fi197 call) n Tryz.f197 (codeOf Tryz.f197) [.str p1, .str p2] = some (.int .i64 rs, [.undef, .undef])
 unfold F197 at hF
 refine body_rule rfl rfl fun L hL K0 n0 r0 => ?_
 refine seq_rule fun K1 n1 e1 r1 => ?_
 refine region_rule rfl rfl rfl fun k0 hk0 => ?_
 refine op_rule fun k hk => ?_; simp; rw [hk]
 refine nil_rule ?_
 rw [hk0]
 rw [n1]
 refine seq_rule fun K2 n2 e2 r2 => ?_
 refine seq_rule fun K3 n3 e3 r3 => ?_
 refine region_rule rfl rfl rfl fun k0 hk0 => ?_
 iterate 3 (refine op_rule fun k hk => ?_; simp; rw [hk])
 refine nil_rule ?_
 rw [hk0]
 rw [n3]
 refine cond_rule rfl (fun hb => ?_) fun hb => ?_
 ·
  have hc39 : ((p2.length : Int) == 0) = true := by first | exact hb | simpa using hb
  rw [if_pos hc39] at hF
  refine seq_rule fun K4 n4 e4 r4 => ?_
  refine region_rule rfl rfl rfl fun k0 hk0 => ?_
  refine op_rule fun k hk => ?_; simp; rw [hk]
  cases hF
 ·
  have hc39 : ¬ ((p2.length : Int) == 0) = true := by first | (rw [hb]; simp; done) | simpa using hb
  rw [if_neg hc39] at hF
  refine skip_rule ?_
  rw [n2]
  refine seq_rule fun K5 n5 e5 r5 => ?_
  refine seq_rule fun K6 n6 e6 r6 => ?_
  refine region_rule rfl rfl rfl fun k0 hk0 => ?_
  iterate 3 (refine op_rule fun k hk => ?_; simp; rw [hk])
  refine nil_rule ?_
  rw [hk0]
  rw [n6]
  refine cond_rule rfl (fun hb => ?_) fun hb => ?_
  ·
   have hc38 : ((p2.length : Int) == 1) = true := by first | exact hb | simpa using hb
   rw [if_pos hc38] at hF
   refine seq_rule fun K7 n7 e7 r7 => ?_
   refine region_rule rfl rfl rfl fun k0 hk0 => ?_
   iterate 2 (refine op_rule fun k hk => ?_; simp; rw [hk])
   obtain ⟨x8, h9, hF⟩ := bind_some hF
   obtain ⟨⟨h9a, h9b⟩, h9c, h9d⟩ := ix_some h9
   try simp at h9b
   have h9r : (p2.map encB).getD (Int.toNat 0) [] = encB x8 := by rw [List.getD_eq_getElem?_getD, List.getElem?_map, show p2[(Int.toNat 0)]? = _ from h9d]; rfl
   have h9ru : p2.getD (Int.toNat 0) 0 = x8 := by rw [List.getD_eq_getElem?_getD, show p2[(Int.toNat 0)]? = _ from h9d]; rfl
   have h9s : (p2.map encB).getD 0 [] = encB x8 := by rw [List.getD_eq_getElem?_getD, List.getElem?_map, show p2[0]? = _ from h9d]; rfl
   have h9su : p2.getD 0 0 = x8 := by rw [List.getD_eq_getElem?_getD, show p2[0]? = _ from h9d]; rfl
   refine op_rule fun k hk => ?_; simp [h9a, h9b, ↓h9r, ↓h9ru, ↓h9s, ↓h9su]; rw [hk]
   have c12 : call 220 [.str p1, .int .u8 (x8.toNat : Int)] = some (.int .i64 (cnt8 (x8.toNat : Int).toNat.toUInt8 p1 : Nat), [.undef, .undef]) := by rw [hcd]; exact P220 n (d + 3) p1 (x8.toNat : Int) 
   refine op_rule fun k hk => ?_; simp [c12]; rw [hk]
   refine op_rule fun k hk => ?_; simp; rw [hk]
   refine nil_rule ?_
   rw [hk0]
   rw [n7]
   refine ret_rule ?_
   obtain rfl := Option.some.inj hF
   rw [r5, r0]
   simp [Tryz.f197, bytesV_eq, List.map_set]
  ·
   have hc38 : ¬ ((p2.length : Int) == 1) = true := by first | (rw [hb]; simp; done) | simpa using hb
   rw [if_neg hc38] at hF
   refine skip_rule ?_
   rw [n5]
   refine seq_rule fun K13 n13 e13 r13 => ?_
   refine region_rule rfl rfl rfl fun k0 hk0 => ?_
   refine op_rule fun k hk => ?_; simp; rw [hk]
   refine nil_rule ?_
   rw [hk0]
   rw [n13]
   refine block_rule fun K14 n14 x14 e14 r14 => ?_
   refine loop_rule ?_
   rw [hL]
   refine loop_F 6 [0, 1, 5] rfl rfl (fun b : (List UInt8) × Int => [.str b.1, .str p2, .undef, .undef, .undef, .int .i64 b.2, .undef, .undef, .undef, .undef, .undef, .undef, .undef, .undef, .undef, .undef, .undef, .undef, .undef, .undef, .undef, .undef, .undef, .undef, .undef, .undef, .undef, .undef, .undef, .undef, .undef, .undef, .undef, .undef]) (fun m b => F197_L15 n p2 m b.1 b.2 = some rs) (fun b h => by simp [F197_L15] at h) ?_ n (p1, 0) _ hF (by first | rfl | (simp; done) | (simp [List.map_set, bytesV_eq]; done))
   rintro m15 ⟨v16, v17⟩ hF L15 hL15 K'15 hnorm15 hexit15 hret15
   replace hF : F197_L15 n p2 (m15 + 1) v16 v17 = some rs := hF
   rw [F197_L15] at hF
   refine block_rule fun K20 n20 x20 e20 r20 => ?_
   refine seq_rule fun K21 n21 e21 r21 => ?_
   refine region_keep rfl rfl rfl rfl fun k0 hk0 => ?_
   iterate 2 (refine op_rule fun k hk => ?_; simp; rw [hk])
   obtain ⟨r22, h23, hF⟩ := bind_some hF
   have c24 : call 198 [.str v16, .str p2] = some (.int .i64 r22, [.undef, .undef]) := by rw [hcd]; exact F198_ok n (d + 0) v16 p2 r22 h23
   refine op_rule fun k hk => ?_; simp [c24]; rw [hk]
   refine op_rule fun k hk => ?_; simp; rw [hk]
   refine nil_rule ?_
   rw [hk0]
   rw [n21]
   refine seq_rule fun K25 n25 e25 r25 => ?_
   refine seq_rule fun K26 n26 e26 r26 => ?_
   refine region_rule rfl rfl rfl fun k0 hk0 => ?_
   iterate 2 (refine op_rule fun k hk => ?_; simp; rw [hk])
   refine nil_rule ?_
   rw [hk0]
   rw [n26]
   refine cond_rule rfl (fun hb => ?_) fun hb => ?_
   ·
    have hc35 : (r22 == (-1)) = true := by first | exact hb | simpa using hb
    rw [if_pos hc35] at hF
    refine seq_rule fun K27 n27 e27 r27 => ?_
    refine region_rule rfl rfl rfl fun k0 hk0 => ?_
    iterate 2 (refine op_rule fun k hk => ?_; simp; rw [hk])
    refine nil_rule ?_
    rw [hk0]
    rw [n27]
    refine ret_rule ?_
    obtain rfl := Option.some.inj hF
    rw [r25, r20, hret15, r14, r0]
    simp [Tryz.f197, bytesV_eq, List.map_set]
   ·
    have hc35 : ¬ (r22 == (-1)) = true := by first | (rw [hb]; simp; done) | simpa using hb
    rw [if_neg hc35] at hF
    refine skip_rule ?_
    rw [n25]
    refine seq_rule fun K28 n28 e28 r28 => ?_
    refine region_rule rfl rfl rfl fun k0 hk0 => ?_
    refine op_rule fun k hk => ?_; simp; rw [hk]
    obtain ⟨i29, h30, hF⟩ := bind_some hF
    have h30w : IntKind.i64.wrap (v17 + 1) = i29 := by rw [(rng_some h30).2, (rng_some h30).1]
    refine op_rule fun k hk => ?_; simp [h30w]; rw [hk]
    refine op_rule fun k hk => ?_; simp; rw [hk]
    refine nil_rule ?_
    rw [hk0]
    rw [n28]
    refine region_rule rfl rfl rfl fun k0 hk0 => ?_
    iterate 4 (refine op_rule fun k hk => ?_; simp; rw [hk])
    obtain ⟨i31, h32, hF⟩ := bind_some hF
    have h32w : IntKind.i64.wrap (r22 + (p2.length : Int)) = i31 := by rw [(rng_some h32).2, (rng_some h32).1]
    refine op_rule fun k hk => ?_; simp [h32w]; rw [hk]
    obtain ⟨l33, h34, hF⟩ := bind_some hF
    obtain ⟨h34a, h34b, h34c, h34d, h34e⟩ := cutI_some h34
    have h34v0 : v16.drop i31.toNat = l33 := by rw [h34e] <;> first | (simp [List.map_take, List.map_drop]; done) | (rw [List.take_of_length_le (l := v16) (by simp)]; simp [List.map_take, List.map_drop])
    have h34v1 : (v16.take v16.length).drop i31.toNat = l33 := by rw [h34e] <;> first | (simp [List.map_take, List.map_drop]; done) | (rw [List.take_of_length_le (l := v16) (by simp)]; simp [List.map_take, List.map_drop])
    refine op_rule fun k hk => ?_; simp [h34a, h34b, h34c, h34d, h34v0, h34v1]; rw [hk]
    refine op_rule fun k hk => ?_; simp; rw [hk]
    refine nil_rule ?_
    rw [hk0]
    rw [n20]
    refine hnorm15 _ (l33, i29) hF ?_
    first | rfl | (simp; done) | (simp [List.map_set, bytesV_eq]; done)
end Go.Proofs.YtdddbifjkkhpbaaGreatDoor.G
