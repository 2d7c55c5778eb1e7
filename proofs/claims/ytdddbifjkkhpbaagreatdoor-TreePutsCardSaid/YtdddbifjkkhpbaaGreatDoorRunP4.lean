/- Functions of the program, run on plain values: what their plain functions say comes of them. No condition. -/
import Derived.Test.YtdddbifjkkhpbaaGreatDoorPrimsP
import Derived.Test.YtdddbifjkkhpbaaGreatDoorRunP3
import Derived.Test.YtdddbifjkkhpbaaGreatDoorRunP1
namespace Go.Proofs.YtdddbifjkkhpbaaGreatDoor.G
open Go Go.Zv Go.Proofs Go.Proofs.YtdddbifjkkhpbaaGreatDoor
set_option maxRecDepth 100000
set_option maxHeartbeats 0
set_option linter.unusedSimpArgs false
set_option linter.unusedVariables false
attribute [local simp ↓] Go.Zv.into_gv Go.Zv.stale_gv Go.Zv.refAt_gv Go.Zv.rootIn_gv Go.Zv.hits_gv Go.Zv.dropRoot_nil Go.Zv.dropRoot_cons Go.Zv.drop_nil Go.Zv.drop_cons Go.Zv.dropRef_nil Go.Zv.dropRef_cons Go.Zv.runOps Go.Zv.gstep Go.Zv.evOpF cond_eq_ite Go.Zv.ev_assign Go.Zv.ev_move Go.Zv.ev_binOp Go.Zv.ev_pick Go.Zv.ev_call Go.Zv.ev_extract Go.Zv.ev_load Go.Zv.ev_fieldAddr Go.Zv.ev_indexAddr Go.Zv.ev_convert Go.Zv.ev_unOp Go.Zv.ev_slice Go.Zv.ev_index Go.Zv.ev_box Go.Zv.ev_build Go.Zv.ev_buildSlice Go.Zv.ev_makeSlice Go.Zv.ev_store Go.Zv.ev_alloc Go.Zv.ev_makeFunc Go.Zv.ev_field Go.Zv.ev_nilCheck Go.Zv.evBuiltin Go.Zv.appendSrc Go.Zv.appendTo Go.Zv.slen Go.Zv.load Go.Zv.coerce Go.Zv.evBin Go.Zv.evCall Go.Zv.evArgs Go.Zv.resAll Go.Zv.resOne Go.Zv.evConvert Go.Zv.evSlice Go.Zv.cutAt Go.Zv.bnd Go.Zv.share Go.Zv.reads Go.Zv.place Go.Zv.readArgs Go.Zv.readArg Go.Zv.loadCell Go.Zv.cellVal Go.Zv.storeOne Go.Zv.store Go.Zv.fillCells Go.Zv.partCells Go.Zv.copyTo Go.Zv.evCaps
attribute [local simp] Go.Zv.flag Go.Zv.tupOf Go.Zv.opnd Go.Zv.gt Go.Zv.put Go.Zv.setT Go.Zv.into Go.Zv.into1 Go.Zv.nilTo Go.Zv.ofConst Go.Zv.ofScalar Go.Zv.kindOf Go.Zv.idxOf Go.Zv.asInt Go.Zv.asBool Go.Zv.asStr Go.Zv.asSl Go.Zv.simple Go.Zv.linkFree Go.Zv.pack Go.Zv.maskOuts Go.Zv.cut Go.Zv.TK.isAgg Go.Zv.keepOnly Go.Zv.keepGo Go.Zv.mask Go.Zv.rootIn Go.Zv.rootIn1 Go.Zv.nbeq ecall efixed enests eshares ekeep eplan eu8 eflat etakes eturns Go.Zv.callArgs Go.Zv.argV Go.Zv.lent Go.Zv.distinct Go.Zv.heldIn Go.Zv.lend Go.Zv.restore Go.Zv.resOk Go.Zv.flatV Go.Zv.flat2 Go.Zv.flat1 Go.Zv.goodCells Go.Zv.boxed Go.Zv.bump Go.Zv.getP Go.Zv.cellAt Go.Zv.setP Go.Zv.setCellV Go.Zv.setRange Go.Zv.stripAll Go.Zv.V.strip Go.Zv.froz Go.Zv.hasOwn Go.Zv.shareCells Go.Zv.setPlace Go.Zv.stored Go.Zv.stale Go.Zv.stale1 Go.Zv.refAt Go.Zv.refAt1 Go.Zv.isSliceB Go.Zv.deepAt Go.Zv.isIptr Go.Zv.canon Go.Zv.canon1 Go.Zv.over Go.Zv.overGo Go.Zv.hits Go.Zv.hits1 Go.Zv.plainV Go.Zv.putB Go.Zv.isRefV Go.Zv.asOwn gv_true gv_false wrapL wrapLu8 wrapLu64 wrapLi32 wrapLu32
attribute [local simp] ety3 ety4 ety5 ety9 ety22 ety23 ety26 ety38 ety42 ety46 ety48 ety50 ety52 ety73 ety82 ety88 ety126 ety168 ety170 ety174 ety178 ety184 ety210 ti3 ti4 ti5 ti9 ti22 ti23 ti26 ti38 ti42 ti46 ti48 ti50 ti52 ti73 ti82 ti88 ti126 ti168 ti170 ti174 ti178 ti184 ti210 eu8_23 etk3 etn3 efl3 etk7 etn7 efl7 etk8 etn8 efl8 etk9 etn9 efl9 etk10 etn10 efl10 etk11 etn11 efl11 etk12 etn12 efl12 etk13 etn13 efl13 etk14 etn14 efl14 etk15 etn15 efl15 etk16 etn16 efl16 etk17 etn17 efl17 etk18 etn18 efl18 etk23 etn23 efl23 etk31 etn31 efl31 etk37 etn37 efl37 etk38 etn38 efl38 etk39 etn39 efl39 etk40 etn40 efl40 etk41 etn41 efl41 etk42 etn42 efl42 etk43 etn43 efl43 etk44 etn44 efl44 etk45 etn45 efl45 etk46 etn46 efl46 etk47 etn47 efl47 etk48 etn48 efl48 etk51 etn51 efl51 etk52 etn52 efl52 etk53 etn53 efl53 etk54 etn54 efl54 etk66 etn66 efl66 etk73 etn73 efl73 etk74 etn74 efl74 etk75 etn75 efl75 etk76 etn76 efl76 etk77 etn77 efl77 etk78 etn78 efl78 etk79 etn79 efl79 etk80 etn80 efl80 etk81 etn81 efl81 etk82 etn82 efl82 etk85 etn85 efl85 etk87 etn87 efl87 etk88 etn88 efl88 etk106 etn106 efl106 etk114 etn114 efl114 etk115 etn115 efl115 etk116 etn116 efl116 etk119 etn119 efl119 etk120 etn120 efl120 etk121 etn121 efl121 etk122 etn122 efl122 etk127 etn127 efl127 etk128 etn128 efl128 etk129 etn129 efl129 etk130 etn130 efl130 etk154 etn154 efl154 etk155 etn155 efl155 etk156 etn156 efl156 etk157 etn157 efl157 etk158 etn158 efl158 etk159 etn159 efl159 etk161 etn161 efl161 etk162 etn162 efl162 etk197 etn197 efl197 etk198 etn198 efl198 etk199 etn199 efl199 etk200 etn200 efl200 etk202 etn202 efl202 etk220 etn220 efl220 etk221 etn221 efl221 etk222 etn222 efl222 etk234 etn234 efl234 fi3 fi7 fi8 fi9 fi10 fi11 fi12 fi13 fi14 fi15 fi16 fi17 fi18 fi23 fi31 fi37 fi38 fi39 fi40 fi41 fi42 fi44 fi45 fi47 fi48 fi51 fi52 fi53 fi54 fi66 fi73 fi75 fi76 fi77 fi78 fi79 fi80 fi81 fi82 fi85 fi87 fi88 fi106 fi114 fi116 fi119 fi120 fi121 fi122 fi127 fi128 fi129 fi155 fi156 fi157 fi158 fi159 fi161 fi162 fi197 fi198 fi199 fi200 fi202 fi221 fi222
attribute [-simp] List.map_set List.map_map
theorem F15_ok (n d : Nat) {f1 : Bool} {f2 : Bool} (p1 : List GFile) (p2 : List GFile) (rs : Bool) (hF : F15 n p1 p2 = some rs) : callD tab prims n (d + 1) 15 [.sl 2 f1 (p1.map encGFile), .sl 2 f2 (p2.map encGFile)] = some (.bool rs, [.undef, .undef]) := by
 obtain ⟨call, hcd⟩ : ∃ call, call = callD tab prims n (d + 0) := ⟨_, rfl⟩
 refine call_rule (d := d + 0) (N15 _) rfl ?_
 rw [← hcd]
 show runBody (envOf tab fi15 call) n Tryz.f15 (codeOf Tryz.f15) [.sl 2 f1 (p1.map encGFile), .sl 2 f2 (p2.map encGFile)] = some (.bool rs, [.undef, .undef])
 unfold F15 at hF
 refine body_rule rfl rfl fun L hL K0 n0 r0 => ?_
 refine seq_rule fun K1 n1 e1 r1 => ?_
 refine region_rule rfl rfl rfl fun k0 hk0 => ?_
 refine op_rule fun k hk => ?_; simp; rw [hk]
 refine nil_rule ?_
 rw [hk0]
 rw [n1]
 refine seq_rule fun K2 n2 e2 r2 => ?_
 refine seq_rule fun K3 n3 e3 r3 => ?_
 refine region_rule rfl rfl rfl fun k0 hk0 => ?_
 iterate 5 (refine op_rule fun k hk => ?_; simp; rw [hk])
 refine nil_rule ?_
 rw [hk0]
 rw [n3]
 refine cond_rule rfl (fun hb => ?_) fun hb => ?_
 ·
  have hc30 : ((p1.length : Int) != (p2.length : Int)) = true := by first | exact hb | simpa using hb
  rw [if_pos hc30] at hF
  refine seq_rule fun K4 n4 e4 r4 => ?_
  refine region_rule rfl rfl rfl fun k0 hk0 => ?_
  refine op_rule fun k hk => ?_; simp; rw [hk]
  refine nil_rule ?_
  rw [hk0]
  rw [n4]
  refine ret_rule ?_
  obtain rfl := Option.some.inj hF
  rw [r2, r0]
  simp [Tryz.f15, bytesV_eq, List.map_set]
 ·
  have hc30 : ¬ ((p1.length : Int) != (p2.length : Int)) = true := by first | (rw [hb]; simp; done) | simpa using hb
  rw [if_neg hc30] at hF
  refine skip_rule ?_
  rw [n2]
  refine seq_rule fun K5 n5 e5 r5 => ?_
  refine seq_rule fun K6 n6 e6 r6 => ?_
  refine region_rule rfl rfl rfl fun k0 hk0 => ?_
  refine op_rule fun k hk => ?_; simp; rw [hk]
  refine nil_rule ?_
  rw [hk0]
  rw [n6]
  refine block_rule fun K7 n7 x7 e7 r7 => ?_
  refine loop_rule ?_
  rw [hL]
  refine loop_F 4 [0, 1, 5] rfl rfl (fun b : Int => [.sl 2 f1 (p1.map encGFile), .sl 2 f2 (p2.map encGFile), .undef, .undef, .undef, .int .i64 b, .undef, .undef, .undef, .undef, .undef, .undef, .undef, .undef, .undef, .undef, .undef, .undef, .undef, .undef, .undef, .undef, .undef, .undef, .undef, .undef, .undef, .undef, .undef, .undef, .undef, .undef, .undef, .undef, .undef, .undef, .undef, .undef, .undef, .undef, .undef, .undef, .undef]) (fun m b => F15_L8 p1 p2 m b = some rs) (fun b h => by simp [F15_L8] at h) ?_ n 0 _ hF (by first | rfl | (simp; done) | (simp [List.map_set, bytesV_eq, encGFile]; done))
  rintro m8 v9 hF L8 hL8 K'8 hnorm8 hexit8 hret8
  replace hF : F15_L8 p1 p2 (m8 + 1) v9 = some rs := hF
  rw [F15_L8] at hF
  refine seq_rule fun K11 n11 e11 r11 => ?_
  refine seq_rule fun K12 n12 e12 r12 => ?_
  refine region_keep rfl rfl rfl rfl fun k0 hk0 => ?_
  iterate 4 (refine op_rule fun k hk => ?_; simp; rw [hk])
  refine nil_rule ?_
  rw [hk0]
  rw [n12]
  refine cond_rule rfl (fun hb => ?_) fun hb => ?_
  ·
   have hc28 : (decide (v9 < (p1.length : Int))) = true := by first | exact hb | simpa using hb
   rw [if_pos hc28] at hF
   refine skip_rule ?_
   rw [n11]
   refine seq_rule fun K13 n13 e13 r13 => ?_
   refine block_rule fun K14 n14 x14 e14 r14 => ?_
   refine seq_rule fun K15 n15 e15 r15 => ?_
   refine region_plan rfl rfl fun k1 hk1 => ?_
   refine idx_rule rfl fun k hk => ?_
   simp
   rw [hk]
   refine idx_rule rfl fun k hk => ?_
   simp
   rw [hk]
   refine idx_rule rfl fun k hk => ?_
   simp
   rw [hk]
   refine idx_rule rfl fun k hk => ?_
   simp
   rw [hk]
   refine idx_nil ?_
   rw [hk1]
   obtain ⟨x16, h17, hF⟩ := bind_some hF
   obtain ⟨⟨h17a, h17b⟩, h17c, h17d⟩ := ix_some h17
   have h17r : (p1.map encGFile).getD v9.toNat [] = encGFile x16 := by rw [List.getD_eq_getElem?_getD, List.getElem?_map, show p1[v9.toNat]? = _ from h17d]; rfl
   refine steps_rule rfl (by simp [h17a, h17b, ↓h17r, encGFile]) (by simp [h17a, h17b, ↓h17r, encGFile]; rfl) (by simp [h17a, h17b, ↓h17r, encGFile]; rfl) ?_
   refine steps_rule rfl (by simp) (by simp; rfl) (by simp; rfl) ?_
   refine steps_rule rfl (by simp) (by simp; rfl) (by simp; rfl) ?_
   obtain ⟨x18, h19, hF⟩ := bind_some hF
   obtain ⟨⟨h19a, h19b⟩, h19c, h19d⟩ := ix_some h19
   have h19r : (p2.map encGFile).getD v9.toNat [] = encGFile x18 := by rw [List.getD_eq_getElem?_getD, List.getElem?_map, show p2[v9.toNat]? = _ from h19d]; rfl
   refine steps_rule rfl (by simp [h19a, h19b, ↓h19r, encGFile]) (by simp [h19a, h19b, ↓h19r, encGFile]; rfl) (by simp [h19a, h19b, ↓h19r, encGFile]; rfl) ?_
   refine steps_rule rfl (by simp) (by simp; rfl) (by simp; rfl) ?_
   refine steps_rule rfl (by simp) (by simp; rfl) (by simp; rfl) ?_
   refine steps_rule rfl (by simp) (by simp; rfl) (by simp; rfl) ?_
   refine steps_rule rfl (by simp) (by simp; rfl) (by simp; rfl) ?_
   refine steps_split 28 rfl (fun hs20 => ?_) fun hs20 => ?_
   ·
    have hc21 : (!(x16.path_ == x18.path_)) = true := by first | exact hs20 | simpa using hs20
    rw [if_pos hc21] at hF
    refine steps_rule rfl (by simp [hs20]) (by simp [hs20]; rfl) (by simp [hs20]; rfl) ?_
    refine steps_rule rfl (by simp [hs20]) (by simp [hs20]; rfl) (by simp [hs20]; rfl) ?_
    refine steps_rule rfl (by simp [hs20]) (by simp [hs20]; rfl) (by simp [hs20]; rfl) ?_
    refine steps_rule rfl (by simp [hs20]) (by simp [hs20]; rfl) (by simp [hs20]; rfl) ?_
    refine steps_rule rfl (by simp [hs20]) (by simp [hs20]; rfl) (by simp [hs20]; rfl) ?_
    refine steps_rule rfl (by simp [hs20]) (by simp [hs20]; rfl) (by simp [hs20]; rfl) ?_
    refine steps_rule rfl (by simp [hs20]) (by simp [hs20]; rfl) (by simp [hs20]; rfl) ?_
    refine steps_rule rfl (by simp [hs20]) (by simp [hs20]; rfl) (by simp [hs20]; rfl) ?_
    refine steps_rule rfl (by simp [hs20]) (by simp [hs20]; rfl) (by simp [hs20]; rfl) ?_
    refine steps_rule rfl (by simp [hs20]) (by simp [hs20]; rfl) (by simp [hs20]; rfl) ?_
    refine steps_rule rfl (by simp [hs20]) (by simp [hs20]; rfl) (by simp [hs20]; rfl) ?_
    refine steps_rule rfl (by simp [hs20]) (by simp [hs20]; rfl) (by simp [hs20]; rfl) ?_
    refine steps_rule rfl (by simp [hs20]) (by simp [hs20]; rfl) (by simp [hs20]; rfl) ?_
    refine steps_rule rfl (by simp) (pick_ruleG (vc := .bool true) rfl (unbarred_none rfl) rfl rfl (fun hx => by first | (cases hx; done) | (rw [hs20] at hx; cases hx; done) | (simp [hs20] at hx; done) | (simp [hs20]; done) | simp_all) (fun hx => by first | (cases hx; done) | (rw [hs20] at hx; cases hx; done) | (simp [hs20] at hx; done) | (simp [hs20]; done) | simp_all) rfl) (by simp; rfl) ?_
    refine steps_nil ?_
    refine idx_nil ?_
    rw [n15]
    refine cond_rule rfl (fun hb => ?_) fun hb => by simp at hb
    refine seq_rule fun K22 n22 e22 r22 => ?_
    refine region_rule rfl rfl rfl fun k0 hk0 => ?_
    refine op_rule fun k hk => ?_; simp; rw [hk]
    refine nil_rule ?_
    rw [hk0]
    rw [n22]
    refine ret_rule ?_
    obtain rfl := Option.some.inj hF
    rw [r14, r13, hret8, r7, r5, r0]
    simp [Tryz.f15, bytesV_eq, List.map_set]
   ·
    have hc21 : ¬ (!(x16.path_ == x18.path_)) = true := by first | (rw [hs20]; simp; done) | simpa using hs20
    rw [if_neg hc21] at hF
    refine steps_rule rfl (by simp [hs20]) (by simp [hs20]; rfl) (by simp [hs20]; rfl) ?_
    refine steps_rule rfl (by simp [hs20]) (by simp [hs20]; rfl) (by simp [hs20]; rfl) ?_
    refine steps_rule rfl (by simp [hs20, h17a, h17b, ↓h17r, encGFile]) (by simp [hs20, h17a, h17b, ↓h17r, encGFile]; rfl) (by simp [hs20, h17a, h17b, ↓h17r, encGFile]; rfl) ?_
    refine steps_rule rfl (by simp [hs20]) (by simp [hs20]; rfl) (by simp [hs20]; rfl) ?_
    refine steps_rule rfl (by simp [hs20]) (by simp [hs20]; rfl) (by simp [hs20]; rfl) ?_
    refine steps_rule rfl (by simp [hs20, asBytes_map]) (by simp [hs20, asBytes_map]; rfl) (by simp [hs20, asBytes_map]; rfl) ?_
    refine steps_rule rfl (by simp [hs20]) (by simp [hs20]; rfl) (by simp [hs20]; rfl) ?_
    refine steps_rule rfl (by simp [hs20]) (by simp [hs20]; rfl) (by simp [hs20]; rfl) ?_
    refine steps_rule rfl (by simp [hs20, h19a, h19b, ↓h19r, encGFile]) (by simp [hs20, h19a, h19b, ↓h19r, encGFile]; rfl) (by simp [hs20, h19a, h19b, ↓h19r, encGFile]; rfl) ?_
    refine steps_rule rfl (by simp [hs20]) (by simp [hs20]; rfl) (by simp [hs20]; rfl) ?_
    refine steps_rule rfl (by simp [hs20]) (by simp [hs20]; rfl) (by simp [hs20]; rfl) ?_
    refine steps_rule rfl (by simp [hs20, asBytes_map]) (by simp [hs20, asBytes_map]; rfl) (by simp [hs20, asBytes_map]; rfl) ?_
    refine steps_rule rfl (by simp [hs20]) (by simp [hs20]; rfl) (by simp [hs20]; rfl) ?_
    refine steps_rule rfl (by simp) (pick_ruleG (vc := .bool (!(x16.text_ == x18.text_))) rfl (unbarred_none rfl) rfl rfl (fun hx => by first | (cases hx; done) | (rw [hs20] at hx; cases hx; done) | (simp [hs20] at hx; done) | (simp [hs20]; done) | simp_all) (fun hx => by first | (cases hx; done) | (rw [hs20] at hx; cases hx; done) | (simp [hs20] at hx; done) | (simp [hs20]; done) | simp_all) rfl) (by simp; rfl) ?_
    refine steps_nil ?_
    refine idx_nil ?_
    rw [n15]
    refine cond_rule rfl (fun hb => ?_) fun hb => ?_
    ·
     have hc26 : (!(x16.text_ == x18.text_)) = true := by first | exact hb | simpa using hb
     rw [if_pos hc26] at hF
     refine seq_rule fun K23 n23 e23 r23 => ?_
     refine region_rule rfl rfl rfl fun k0 hk0 => ?_
     refine op_rule fun k hk => ?_; simp; rw [hk]
     refine nil_rule ?_
     rw [hk0]
     rw [n23]
     refine ret_rule ?_
     obtain rfl := Option.some.inj hF
     rw [r14, r13, hret8, r7, r5, r0]
     simp [Tryz.f15, bytesV_eq, List.map_set]
    ·
     have hc26 : ¬ (!(x16.text_ == x18.text_)) = true := by first | (rw [hb]; simp; done) | simpa using hb
     rw [if_neg hc26] at hF
     refine skip_rule ?_
     rw [n14, n13]
     refine region_rule rfl rfl rfl fun k0 hk0 => ?_
     refine op_rule fun k hk => ?_; simp; rw [hk]
     obtain ⟨i24, h25, hF⟩ := bind_some hF
     have h25w : IntKind.i64.wrap (v9 + 1) = i24 := by rw [(rng_some h25).2, (rng_some h25).1]
     refine op_rule fun k hk => ?_; simp [h25w]; rw [hk]
     refine op_rule fun k hk => ?_; simp; rw [hk]
     refine nil_rule ?_
     rw [hk0]
     refine hnorm8 _ i24 hF ?_
     first | rfl | (simp; done) | (simp [List.map_set, bytesV_eq, encGFile]; done) | (simp [List.map_set, bytesV_eq, encGFile, hs20]; done)
  ·
   have hc28 : ¬ (decide (v9 < (p1.length : Int))) = true := by first | (rw [hb]; simp; done) | simpa using hb
   rw [if_neg hc28] at hF
   refine exit_rule ?_
   rw [e11, hexit8, x7, n5]
   refine seq_rule fun K27 n27 e27 r27 => ?_
   refine region_rule rfl rfl rfl fun k0 hk0 => ?_
   refine op_rule fun k hk => ?_; simp; rw [hk]
   refine nil_rule ?_
   rw [hk0]
   rw [n27]
   refine ret_rule ?_
   obtain rfl := Option.some.inj hF
   rw [r0]
   simp [Tryz.f15, bytesV_eq, List.map_set]
theorem F3_ok (n d : Nat) {f1 : Bool} {f2 : Bool} (h7 : ∀ d : Nat, callD tab prims n (d + 30) 7 [] = some (.bool true, [])) (p1 : List GFile) (p2 : List UInt8) (p3 : List UInt8) (p4 : List UInt8) (rs : Bool) (hF : F3 n p1 p2 p3 p4 = some rs) : callD tab prims n (d + 31) 3 [.sl 2 f1 (p1.map encGFile), .str p2, .str p3, .sl 1 f2 (p4.map encB)] = some (.bool rs, [.undef, .undef, .undef, .undef]) := by
 obtain ⟨call, hcd⟩ : ∃ call, call = callD tab prims n (d + 30) := ⟨_, rfl⟩
 refine call_rule (d := d + 30) (N3 _) rfl ?_
 rw [← hcd]
 show runBody (envOf tab fi3 call) n Tryz.f3 (codeOf Tryz.f3) [.sl 2 f1 (p1.map encGFile), .str p2, .str p3, .sl 1 f2 (p4.map encB)] = some (.bool rs, [.undef, .undef, .undef, .undef])
 unfold F3 at hF
 refine body_rule rfl rfl fun L hL K0 n0 r0 => ?_
 refine seq_rule fun K1 n1 e1 r1 => ?_
 refine region_rule rfl rfl rfl fun k0 hk0 => ?_
 refine op_rule fun k hk => ?_; simp; rw [hk]
 refine nil_rule ?_
 rw [hk0]
 rw [n1]
 refine seq_rule fun K2 n2 e2 r2 => ?_
 refine region_rule rfl rfl rfl fun k0 hk0 => ?_
 have c5 : call 7 [] = some (.bool true, []) := by rw [hcd]; exact h7 (d + 0)
 refine op_rule fun k hk => ?_; simp [c5]; rw [hk]
 refine op_rule fun k hk => ?_; simp; rw [hk]
 refine nil_rule ?_
 rw [hk0]
 rw [n2]
 refine seq_rule fun K6 n6 e6 r6 => ?_
 refine seq_rule fun K7 n7 e7 r7 => ?_
 refine region_rule rfl rfl rfl fun k0 hk0 => ?_
 refine op_rule fun k hk => ?_; simp; rw [hk]
 obtain ⟨r8, h9, hF⟩ := bind_some hF
 have c10 : call 8 [.sl 2 f1 (p1.map encGFile), .sl 2 true (([] : List (List V)))] = some (.bool r8, [.undef, .undef]) := by rw [hcd]; exact F8_ok n (d + 26) p1 ([] : List GFile) r8 h9
 refine op_rule fun k hk => ?_; simp [c10]; rw [hk]
 iterate 2 (refine op_rule fun k hk => ?_; simp; rw [hk])
 refine op_rule fun k hk => ?_
 refine guard_mf (v := .str p2) rfl rfl rfl rfl (fun hb => by first | (simp [hb]; done) | (simp at hb; simp [hb, gv_pos]; done) | (simp (maxSteps := 1000000) [hb, gv_pos]; done)) ?_
 simp
 rw [hk]
 refine op_rule fun k hk => ?_
 refine guard_mf (v := .int .i64 (p2.length : Int)) rfl rfl rfl rfl (fun hb => by first | (simp [hb]; done) | (simp at hb; simp [hb, gv_pos]; done) | (simp (maxSteps := 1000000) [hb, gv_pos]; done)) ?_
 simp
 rw [hk]
 refine op_rule fun k hk => ?_
 refine guard_mf (v := .bool (decide ((p2.length : Int) > 200))) rfl rfl rfl rfl (fun hb => by first | (simp [hb]; done) | (simp at hb; simp [hb, gv_pos]; done) | (simp (maxSteps := 1000000) [hb, gv_pos]; done)) ?_
 simp
 rw [hk]
 refine op_rule fun k hk => ?_
 refine pick_or (y := (decide ((p2.length : Int) > 200))) rfl (unbarred_none rfl) rfl rfl rfl (fun hx => by first | rfl | (simp [hx]; done) | (simp at hx; simp [hx, gv_pos]; done) | (simp (maxSteps := 1000000) [hx, gv_pos]; done)) ?_
 simp
 rw [hk]
 refine op_rule fun k hk => ?_; simp; rw [hk]
 refine op_rule fun k hk => ?_
 refine guard_mf (v := .str p3) rfl rfl rfl rfl (fun hb => by first | (simp [hb]; done) | (simp at hb; simp [hb, gv_pos]; done) | (simp (maxSteps := 1000000) [hb, gv_pos]; done)) ?_
 simp
 rw [hk]
 refine op_rule fun k hk => ?_
 refine guard_mf (v := .int .i64 (p3.length : Int)) rfl rfl rfl rfl (fun hb => by first | (simp [hb]; done) | (simp at hb; simp [hb, gv_pos]; done) | (simp (maxSteps := 1000000) [hb, gv_pos]; done)) ?_
 simp
 rw [hk]
 refine op_rule fun k hk => ?_
 refine guard_mf (v := .bool (decide ((p3.length : Int) > 200))) rfl rfl rfl rfl (fun hb => by first | (simp [hb]; done) | (simp at hb; simp [hb, gv_pos]; done) | (simp (maxSteps := 1000000) [hb, gv_pos]; done)) ?_
 simp
 rw [hk]
 refine op_rule fun k hk => ?_
 refine pick_or (y := (decide ((p3.length : Int) > 200))) rfl (unbarred_none rfl) rfl rfl rfl (fun hx => by first | rfl | (simp [hx]; done) | (simp at hx; simp [hx, gv_pos]; done) | (simp (maxSteps := 1000000) [hx, gv_pos]; done)) ?_
 simp
 rw [hk]
 refine op_rule fun k hk => ?_; simp; rw [hk]
 refine op_rule fun k hk => ?_
 refine guard_mf (v := .sl 1 f2 (p4.map encB)) rfl rfl rfl rfl (fun hb => by first | (simp [hb]; done) | (simp at hb; simp [hb, gv_pos]; done) | (simp (maxSteps := 1000000) [hb, gv_pos]; done)) ?_
 simp
 rw [hk]
 refine op_rule fun k hk => ?_
 refine guard_mf (v := .int .i64 (p4.length : Int)) rfl rfl rfl rfl (fun hb => by first | (simp [hb]; done) | (simp at hb; simp [hb, gv_pos]; done) | (simp (maxSteps := 1000000) [hb, gv_pos]; done)) ?_
 simp
 rw [hk]
 refine op_rule fun k hk => ?_
 refine guard_mf (v := .bool (decide ((p4.length : Int) > 3000))) rfl rfl rfl rfl (fun hb => by first | (simp [hb]; done) | (simp at hb; simp [hb, gv_pos]; done) | (simp (maxSteps := 1000000) [hb, gv_pos]; done)) ?_
 simp
 rw [hk]
 refine op_rule fun k hk => ?_
 refine pick_or (y := (decide ((p4.length : Int) > 3000))) rfl (unbarred_none rfl) rfl rfl rfl (fun hx => by first | rfl | (simp [hx]; done) | (simp at hx; simp [hx, gv_pos]; done) | (simp (maxSteps := 1000000) [hx, gv_pos]; done)) ?_
 simp
 rw [hk]
 refine op_rule fun k hk => ?_; simp; rw [hk]
 refine op_rule fun k hk => ?_
 refine guard_mf (v := .bool true) rfl rfl rfl rfl (fun hb => by first | (simp [hb]; done) | (simp at hb; simp [hb, gv_pos]; done) | (simp (maxSteps := 1000000) [hb, gv_pos]; done)) ?_
 simp
 rw [hk]
 refine op_rule fun k hk => ?_
 refine guard_mf (v := .bool false) rfl rfl rfl rfl (fun hb => by first | (simp [hb]; done) | (simp at hb; simp [hb, gv_pos]; done) | (simp (maxSteps := 1000000) [hb, gv_pos]; done)) ?_
 simp
 rw [hk]
 refine op_rule fun k hk => ?_
 refine pick_or (y := false) rfl (unbarred_none rfl) rfl rfl rfl (fun hx => by first | rfl | (simp [hx]; done) | (simp at hx; simp [hx, gv_pos]; done) | (simp (maxSteps := 1000000) [hx, gv_pos]; done)) ?_
 simp
 rw [hk]
 refine nil_rule ?_
 rw [hk0]
 rw [n7]
 refine cond_rule rfl (fun hb => ?_) fun hb => ?_
 ·
  have hc86 : ((((!r8) || (decide ((p2.length : Int) > 200))) || (decide ((p3.length : Int) > 200))) || (decide ((p4.length : Int) > 3000))) = true := by first | exact hb | simpa using hb
  rw [if_pos hc86] at hF
  refine seq_rule fun K11 n11 e11 r11 => ?_
  refine region_rule rfl rfl rfl fun k0 hk0 => ?_
  iterate 2 (refine op_rule fun k hk => ?_; simp; rw [hk])
  refine nil_rule ?_
  rw [hk0]
  rw [n11]
  refine ret_rule ?_
  obtain rfl := Option.some.inj hF
  rw [r6, r0]
  simp [Tryz.f3, bytesV_eq, List.map_set]
 ·
  have hc86 : ¬ ((((!r8) || (decide ((p2.length : Int) > 200))) || (decide ((p3.length : Int) > 200))) || (decide ((p4.length : Int) > 3000))) = true := by first | (rw [hb]; simp; done) | simpa using hb
  rw [if_neg hc86] at hF
  refine skip_rule ?_
  rw [n6]
  refine seq_rule fun K12 n12 e12 r12 => ?_
  refine region_keep rfl rfl rfl rfl fun k0 hk0 => ?_
  iterate 3 (refine op_rule fun k hk => ?_; simp; rw [hk])
  obtain ⟨r13, h14, hF⟩ := bind_some hF
  have c15 : call 9 [.sl 2 f1 (p1.map encGFile), .str p2, .sl 1 f2 (p4.map encB)] = some (.tup [.own false 2 (r13.1.map encGFile), .int .i64 r13.2], [.undef, .undef, .undef]) := by rw [hcd]; exact F9_ok n (d + 13) p1 p2 p4 r13 h14
  refine op_rule fun k hk => ?_; simp [c15]; rw [hk]
  iterate 5 (refine op_rule fun k hk => ?_; simp; rw [hk])
  refine nil_rule ?_
  rw [hk0]
  rw [n12]
  refine seq_rule fun K16 n16 e16 r16 => ?_
  refine region_rule rfl rfl rfl fun k0 hk0 => ?_
  iterate 2 (refine op_rule fun k hk => ?_; simp; rw [hk])
  obtain ⟨r17, h18, hF⟩ := bind_some hF
  have c19 : call 10 [.sl 2 f1 (p1.map encGFile), .str p2] = some (.tup [.sl 1 false (r17.1.map encB), .bool r17.2], [.undef, .undef]) := by rw [hcd]; exact F10_ok n (d + 29) p1 p2 r17 h18
  refine op_rule fun k hk => ?_; simp [c19]; rw [hk]
  iterate 5 (refine op_rule fun k hk => ?_; simp; rw [hk])
  refine nil_rule ?_
  rw [hk0]
  rw [n16]
  refine seq_rule fun K20 n20 e20 r20 => ?_
  refine seq_rule fun K21 n21 e21 r21 => ?_
  refine region_rule rfl rfl rfl fun k0 hk0 => ?_
  iterate 2 (refine op_rule fun k hk => ?_; simp; rw [hk])
  refine nil_rule ?_
  rw [hk0]
  rw [n21]
  refine cond_rule rfl (fun hb => ?_) fun hb => ?_
  ·
   have hc85 : (r13.2 != 0) = true := by first | exact hb | simpa using hb
   rw [if_pos hc85] at hF
   refine seq_rule fun K22 n22 e22 r22 => ?_
   refine region_rule rfl rfl rfl fun k0 hk0 => ?_
   iterate 7 (refine op_rule fun k hk => ?_; simp; rw [hk])
   refine op_rule fun k hk => ?_
   refine guard_mt (v := .int .i64 r13.2) rfl rfl rfl rfl (fun hb => by first | (simp [hb]; done) | (simp at hb; simp [hb, gv_pos]; done) | (simp (maxSteps := 1000000) [hb, gv_pos]; done)) ?_
   simp
   rw [hk]
   refine op_rule fun k hk => ?_
   refine guard_mt (v := .bool (r13.2 == 8)) rfl rfl rfl rfl (fun hb => by first | (simp [hb]; done) | (simp at hb; simp [hb, gv_pos]; done) | (simp (maxSteps := 1000000) [hb, gv_pos]; done)) ?_
   simp
   rw [hk]
   refine op_rule fun k hk => ?_
   refine guard_mt (v := .bool (r13.2 == 8)) rfl rfl rfl rfl (fun hb => by first | (simp [hb]; done) | (simp at hb; simp [hb, gv_pos]; done) | (simp (maxSteps := 1000000) [hb, gv_pos]; done)) ?_
   simp
   rw [hk]
   refine op_rule fun k hk => ?_
   refine guard_nf (v := .int .i64 r13.2) rfl rfl rfl rfl (fun hp hb => by first | (simp [hp, hb]; done) | (simp at hp hb; simp [hp, hb, gv_pos]; done) | (simp (maxSteps := 1000000) [hp, hb, gv_pos]; done)) ?_
   simp
   rw [hk]
   refine op_rule fun k hk => ?_
   refine guard_nf (v := .bool (r13.2 == 4)) rfl rfl rfl rfl (fun hp hb => by first | (simp [hp, hb]; done) | (simp at hp hb; simp [hp, hb, gv_pos]; done) | (simp (maxSteps := 1000000) [hp, hb, gv_pos]; done)) ?_
   simp
   rw [hk]
   refine op_rule fun k hk => ?_
   refine guard_mt (v := .bool ((r13.2 == 8) || (r13.2 == 4))) rfl rfl rfl rfl (fun hb => pick_eq (x := (r13.2 == 8)) (vc := .bool ((r13.2 == 8) || (r13.2 == 4))) rfl (by simp [hb]) (fun hx => by first | (simp [hb, hx]; done) | (simp at hb hx; simp [hb, hx, gv_pos]; done) | simp_all) (fun hx => by first | (simp [hb, hx]; done) | (simp at hb hx; simp [hb, hx, gv_pos]; done) | simp_all)) ?_
   simp
   rw [hk]
   refine op_rule fun k hk => ?_
   refine pick_and (y := ((r13.2 == 8) || (r13.2 == 4))) rfl (unbarred_none rfl) rfl rfl rfl (fun hx => by first | rfl | (simp [hx]; done) | (simp at hx; simp [hx, gv_pos]; done) | (simp (maxSteps := 1000000) [hx, gv_pos]; done)) ?_
   simp
   rw [hk]
   refine op_rule fun k hk => ?_; simp; rw [hk]
   refine nil_rule ?_
   rw [hk0]
   rw [n22]
   refine ret_rule ?_
   obtain rfl := Option.some.inj hF
   rw [r20, r0]
   simp [Tryz.f3, bytesV_eq, List.map_set]
  ·
   have hc85 : ¬ (r13.2 != 0) = true := by first | (rw [hb]; simp; done) | simpa using hb
   rw [if_neg hc85] at hF
   refine skip_rule ?_
   rw [n20]
   refine seq_rule fun K23 n23 e23 r23 => ?_
   refine region_rule rfl rfl rfl fun k0 hk0 => ?_
   iterate 2 (refine op_rule fun k hk => ?_; simp; rw [hk])
   obtain ⟨r24, h25, hF⟩ := bind_some hF
   have c26 : call 11 [.sl 2 false (r13.1.map encGFile), .str p2] = some (.tup [.own false 1 (r24.1.map encB), .int .i64 r24.2], [.undef, .undef]) := by rw [hcd]; exact F11_ok n (d + 13) r13.1 p2 r24 h25
   refine op_rule fun k hk => ?_; simp [c26]; rw [hk]
   iterate 5 (refine op_rule fun k hk => ?_; simp; rw [hk])
   refine nil_rule ?_
   rw [hk0]
   rw [n23]
   refine seq_rule fun K27 n27 e27 r27 => ?_
   refine seq_rule fun K28 n28 e28 r28 => ?_
   refine region_rule rfl rfl rfl fun k0 hk0 => ?_
   iterate 3 (refine op_rule fun k hk => ?_; simp; rw [hk])
   refine op_rule fun k hk => ?_
   refine guard_f rfl rfl rfl rfl (fun hg29r => ?_) fun hg29r => ?_
   ·
    have hg29 : (r24.2 != 0) = true := by first | exact hg29r | simpa using hg29r
    rw [if_pos hg29] at hF
    simp [hg29r]
    rw [hk]
    iterate 9 (refine op_rule fun k hk => ?_; simp; rw [hk])
    refine nil_rule ?_
    rw [hk0]
    rw [n28]
    refine cond_rule rfl (fun hb => ?_) fun hb => by simp at hb
    refine seq_rule fun K30 n30 e30 r30 => ?_
    refine region_rule rfl rfl rfl fun k0 hk0 => ?_
    refine op_rule fun k hk => ?_; simp; rw [hk]
    refine nil_rule ?_
    rw [hk0]
    rw [n30]
    refine ret_rule ?_
    obtain rfl := Option.some.inj hF
    rw [r27, r0]
    simp [Tryz.f3, bytesV_eq, List.map_set]
   ·
    have hg29 : ¬ (r24.2 != 0) = true := by first | (rw [hg29r]; simp; done) | simpa using hg29r
    rw [if_neg hg29] at hF
    simp [hg29r]
    rw [hk]
    refine op_rule fun k hk => ?_; simp; rw [hk]
    obtain ⟨r31, h32, hF⟩ := bind_some hF
    have c33 : call 12 [.sl 1 false (r24.1.map encB), .sl 1 f2 (p4.map encB)] = some (.bool r31, [.undef, .undef]) := by rw [hcd]; exact F12_ok n (d + 29) r24.1 p4 r31 h32
    refine op_rule fun k hk => ?_; simp [c33]; rw [hk]
    iterate 3 (refine op_rule fun k hk => ?_; simp; rw [hk])
    refine op_rule fun k hk => ?_
    refine guard_mf (v := .sl 2 false (r13.1.map encGFile)) rfl rfl rfl rfl (fun hb => by first | (simp [hb]; done) | (simp at hb; simp [hb, gv_pos]; done) | (simp (maxSteps := 1000000) [hb, gv_pos]; done)) ?_
    simp
    rw [hk]
    refine op_rule fun k hk => ?_
    refine guard_f rfl rfl rfl rfl (fun hg34r => ?_) fun hg34r => ?_
    ·
     have hg34 : (!r31) = true := by first | exact hg34r | simpa using hg34r
     rw [if_pos hg34] at hF
     have hg34n := hg34r
     try simp at hg34n
     simp [hg34r, hg34n, gv_pos, gv_neg]
     rw [hk]
     iterate 2 (refine op_rule fun k hk => ?_; simp; rw [hk])
     refine nil_rule ?_
     rw [hk0]
     rw [n28]
     refine cond_rule rfl (fun hb => ?_) fun hb => by simp at hb
     refine seq_rule fun K35 n35 e35 r35 => ?_
     refine region_rule rfl rfl rfl fun k0 hk0 => ?_
     refine op_rule fun k hk => ?_; simp; rw [hk]
     refine nil_rule ?_
     rw [hk0]
     rw [n35]
     refine ret_rule ?_
     obtain rfl := Option.some.inj hF
     rw [r27, r0]
     simp [Tryz.f3, bytesV_eq, List.map_set]
    ·
     have hg34 : ¬ (!r31) = true := by first | (rw [hg34r]; simp; done) | simpa using hg34r
     rw [if_neg hg34] at hF
     obtain ⟨r36, h37, hF⟩ := bind_some hF
     have c38 : call 13 [.sl 2 false (r13.1.map encGFile)] = some (.int .i64 r36, [.undef]) := by rw [hcd]; exact F13_ok n (d + 27) r13.1 r36 h37
     have hg34n := hg34r
     try simp at hg34n
     simp [hg34r, hg34n, gv_pos, gv_neg, c38]
     rw [hk]
     iterate 2 (refine op_rule fun k hk => ?_; simp; rw [hk])
     refine nil_rule ?_
     rw [hk0]
     rw [n28]
     refine cond_rule rfl (fun hb => ?_) fun hb => ?_
     ·
      have hc84 : (r36 != 0) = true := by first | exact hb | simpa using hb
      rw [if_pos hc84] at hF
      refine seq_rule fun K39 n39 e39 r39 => ?_
      refine region_rule rfl rfl rfl fun k0 hk0 => ?_
      refine op_rule fun k hk => ?_; simp; rw [hk]
      refine nil_rule ?_
      rw [hk0]
      rw [n39]
      refine ret_rule ?_
      obtain rfl := Option.some.inj hF
      rw [r27, r0]
      simp [Tryz.f3, bytesV_eq, List.map_set]
     ·
      have hc84 : ¬ (r36 != 0) = true := by first | (rw [hb]; simp; done) | simpa using hb
      rw [if_neg hc84] at hF
      refine skip_rule ?_
      rw [n27]
      refine seq_rule fun K40 n40 e40 r40 => ?_
      have hJ40 : ∀ (_ : Unit), F3_J40 n p1 p2 r13 r17 = some rs → ∀ σ' : List V, keepOnly [0, 1, 9, 10, 13] σ' = [.sl 2 f1 (p1.map encGFile), .str p2, .undef, .undef, .undef, .undef, .undef, .undef, .undef, .bool true, .sl 2 false (r13.1.map encGFile), .undef, .undef, .bool r17.2, .undef, .undef, .undef, .undef, .undef, .undef, .undef, .undef, .undef, .undef, .undef, .undef, .undef, .undef, .undef, .undef, .undef, .undef, .undef, .undef, .undef, .undef, .undef, .undef, .undef, .undef, .undef, .undef, .undef, .undef, .undef, .undef, .undef, .undef, .undef, .undef, .undef, .undef, .undef, .undef, .undef, .undef, .undef, .undef, .undef, .undef, .undef, .undef, .undef, .undef, .undef, .undef, .undef, .undef, .undef, .undef, .undef, .undef, .undef, .undef, .undef, .undef, .undef, .undef, .undef, .undef, .undef, .undef, .undef, .undef, .undef, .undef, .undef, .undef, .undef, .undef, .undef, .undef, .undef, .undef, .undef, .undef, .undef, .undef, .undef, .undef, .undef, .undef, .undef, .undef, .undef, .undef, .undef, .undef, .undef, .undef, .undef, .undef, .undef, .undef, .undef, .undef, .undef, .undef, .undef, .undef, .undef, .undef, .undef, .undef, .undef, .undef, .undef, .undef, .undef, .undef, .undef, .undef, .undef, .undef, .undef, .undef, .undef, .undef, .undef, .undef, .undef, .undef, .undef, .undef, .undef, .undef, .undef, .undef, .undef, .undef, .undef, .undef, .undef, .undef, .undef, .undef, .undef, .undef, .undef, .undef, .undef, .undef, .undef, .undef, .undef, .undef, .undef, .undef, .undef, .undef, .undef, .undef, .undef] → K40 .normal σ' = some ((.bool rs, [.undef, .undef, .undef, .undef])) := by
       intro _ hF σ' hσ
       rw [n40]
       refine join_rule 16 [0, 1, 9, 10, 13] rfl rfl hσ ?_
       unfold F3_J40 at hF
       refine seq_rule fun K41 n41 e41 r41 => ?_
       refine region_keep rfl rfl rfl rfl fun k0 hk0 => ?_
       iterate 2 (refine op_rule fun k hk => ?_; simp; rw [hk])
       obtain ⟨r42, h43, hF⟩ := bind_some hF
       have c44 : call 14 [.sl 2 false (r13.1.map encGFile), .str p2] = some (.tup [.own false 2 (r42.1.map encGFile), .int .i64 r42.2], [.undef, .undef]) := by rw [hcd]; exact F14_ok n (d + 13) r13.1 p2 r42 h43
       refine op_rule fun k hk => ?_; simp [c44]; rw [hk]
       iterate 5 (refine op_rule fun k hk => ?_; simp; rw [hk])
       refine nil_rule ?_
       rw [hk0]
       rw [n41]
       refine seq_rule fun K45 n45 e45 r45 => ?_
       refine region_rule rfl rfl rfl fun k0 hk0 => ?_
       iterate 2 (refine op_rule fun k hk => ?_; simp; rw [hk])
       obtain ⟨r46, h47, hF⟩ := bind_some hF
       have c48 : call 14 [.sl 2 f1 (p1.map encGFile), .str p2] = some (.tup [.own false 2 (r46.1.map encGFile), .int .i64 r46.2], [.undef, .undef]) := by rw [hcd]; exact F14_ok n (d + 13) p1 p2 r46 h47
       refine op_rule fun k hk => ?_; simp [c48]; rw [hk]
       iterate 5 (refine op_rule fun k hk => ?_; simp; rw [hk])
       refine nil_rule ?_
       rw [hk0]
       rw [n45]
       refine seq_rule fun K49 n49 e49 r49 => ?_
       refine seq_rule fun K50 n50 e50 r50 => ?_
       refine region_rule rfl rfl rfl fun k0 hk0 => ?_
       iterate 3 (refine op_rule fun k hk => ?_; simp; rw [hk])
       refine op_rule fun k hk => ?_
       refine guard_mf (v := .bool r17.2) rfl rfl rfl rfl (fun hb => by first | (simp [hb]; done) | (simp at hb; simp [hb, gv_pos]; done) | (simp (maxSteps := 1000000) [hb, gv_pos]; done)) ?_
       simp
       rw [hk]
       refine op_rule fun k hk => ?_
       refine guard_mf (v := .int .i64 r46.2) rfl rfl rfl rfl (fun hb => by first | (simp [hb]; done) | (simp at hb; simp [hb, gv_pos]; done) | (simp (maxSteps := 1000000) [hb, gv_pos]; done)) ?_
       simp
       rw [hk]
       refine op_rule fun k hk => ?_
       refine guard_mf (v := .bool (r46.2 == 0)) rfl rfl rfl rfl (fun hb => by first | (simp [hb]; done) | (simp at hb; simp [hb, gv_pos]; done) | (simp (maxSteps := 1000000) [hb, gv_pos]; done)) ?_
       simp
       rw [hk]
       refine op_rule fun k hk => ?_
       refine guard_mf (v := .bool (!(r17.2 == (r46.2 == 0)))) rfl rfl rfl rfl (fun hb => by first | (simp [hb]; done) | (simp at hb; simp [hb, gv_pos]; done) | (simp (maxSteps := 1000000) [hb, gv_pos]; done)) ?_
       simp
       rw [hk]
       refine op_rule fun k hk => ?_
       refine pick_or (y := (!(r17.2 == (r46.2 == 0)))) rfl (unbarred_none rfl) rfl rfl rfl (fun hx => by first | rfl | (simp [hx]; done) | (simp at hx; simp [hx, gv_pos]; done) | (simp (maxSteps := 1000000) [hx, gv_pos]; done)) ?_
       simp
       rw [hk]
       refine nil_rule ?_
       rw [hk0]
       rw [n50]
       refine cond_rule rfl (fun hb => ?_) fun hb => ?_
       ·
        have hc65 : ((r42.2 != 0) || (!(r17.2 == (r46.2 == 0)))) = true := by first | exact hb | simpa using hb
        rw [if_pos hc65] at hF
        refine seq_rule fun K51 n51 e51 r51 => ?_
        refine region_rule rfl rfl rfl fun k0 hk0 => ?_
        refine op_rule fun k hk => ?_; simp; rw [hk]
        refine nil_rule ?_
        rw [hk0]
        rw [n51]
        refine ret_rule ?_
        obtain rfl := Option.some.inj hF
        rw [r49, r0]
        simp [Tryz.f3, bytesV_eq, List.map_set]
       ·
        have hc65 : ¬ ((r42.2 != 0) || (!(r17.2 == (r46.2 == 0)))) = true := by first | (rw [hb]; simp; done) | simpa using hb
        rw [if_neg hc65] at hF
        refine skip_rule ?_
        rw [n49]
        refine seq_rule fun K52 n52 e52 r52 => ?_
        refine region_keep rfl rfl rfl rfl fun k0 hk0 => ?_
        iterate 4 (refine op_rule fun k hk => ?_; simp; rw [hk])
        refine op_rule fun k hk => ?_
        refine guard_t rfl rfl rfl rfl (fun hg53r => ?_) fun hg53r => ?_
        ·
         have hg53 : r17.2 = true := by first | exact hg53r | simpa using hg53r
         rw [if_pos hg53] at hF
         simp [hg53r]
         rw [hk]
         refine op_rule fun k hk => ?_; simp; rw [hk]
         obtain ⟨r54, h55, hF⟩ := bind_some hF
         have c56 : call 15 [.sl 2 false (r42.1.map encGFile), .sl 2 false (r46.1.map encGFile)] = some (.bool r54, [.undef, .undef]) := by rw [hcd]; exact F15_ok n (d + 29) r42.1 r46.1 r54 h55
         refine op_rule fun k hk => ?_; simp [c56]; rw [hk]
         iterate 2 (refine op_rule fun k hk => ?_; simp; rw [hk])
         refine op_rule fun k hk => ?_
         refine guard_t rfl rfl rfl rfl (fun hg57r => ?_) fun hg57r => ?_
         ·
          have hg57 : r54 = true := by first | exact hg57r | simpa using hg57r
          rw [if_pos hg57] at hF
          simp [hg57r]
          rw [hk]
          iterate 6 (refine op_rule fun k hk => ?_; simp; rw [hk])
          refine op_rule fun k hk => ?_
          refine guard_f rfl rfl rfl rfl (fun hg58r => ?_) fun hg58r => ?_
          ·
           have hg58 : ((r13.1.length : Int) == (p1.length : Int)) = true := by first | exact hg58r | simpa using hg58r
           rw [if_pos hg58] at hF
           simp [hg58r]
           rw [hk]
           iterate 17 (refine op_rule fun k hk => ?_; simp; rw [hk])
           refine nil_rule ?_
           rw [hk0]
           rw [n52]
           refine ret_rule ?_
           obtain rfl := Option.some.inj hF
           rw [r0]
           simp [Tryz.f3, bytesV_eq, List.map_set]
          ·
           have hg58 : ¬ ((r13.1.length : Int) == (p1.length : Int)) = true := by first | (rw [hg58r]; simp; done) | simpa using hg58r
           rw [if_neg hg58] at hF
           simp [hg58r]
           rw [hk]
           iterate 2 (refine op_rule fun k hk => ?_; simp; rw [hk])
           iterate 3 (refine op_rule fun k hk => ?_; simp [hg53r]; rw [hk])
           refine op_rule fun k hk => ?_
           refine pick_ruleG (vc := .bool false) rfl (unbarred_of (want := false) rfl rfl (by first | rfl | (simp [gv_pos]; done))) rfl rfl (fun hx => by first | (cases hx; done) | (rw [hg53r] at hx; cases hx; done) | (simp [hg53r] at hx; done) | (simp [hg53r]; done) | simp_all) (fun hx => by first | (cases hx; done) | (rw [hg53r] at hx; cases hx; done) | (simp [hg53r] at hx; done) | (simp [hg53r]; done) | simp_all) ?_
           simp
           rw [hk]
           iterate 11 (refine op_rule fun k hk => ?_; simp; rw [hk])
           refine nil_rule ?_
           rw [hk0]
           rw [n52]
           refine ret_rule ?_
           obtain rfl := Option.some.inj hF
           rw [r0]
           simp [Tryz.f3, bytesV_eq, List.map_set]
         ·
          have hg57 : ¬ r54 = true := by first | (rw [hg57r]; simp; done) | simpa using hg57r
          rw [if_neg hg57] at hF
          simp [hg57r]
          rw [hk]
          iterate 9 (refine op_rule fun k hk => ?_; simp; rw [hk])
          iterate 3 (refine op_rule fun k hk => ?_; simp [hg53r]; rw [hk])
          refine op_rule fun k hk => ?_
          refine pick_ruleG (vc := .bool false) rfl (unbarred_of (want := false) rfl rfl (by first | rfl | (simp [gv_pos]; done))) rfl rfl (fun hx => by first | (cases hx; done) | (rw [hg53r] at hx; cases hx; done) | (simp [hg53r] at hx; done) | (simp [hg53r]; done) | simp_all) (fun hx => by first | (cases hx; done) | (rw [hg53r] at hx; cases hx; done) | (simp [hg53r] at hx; done) | (simp [hg53r]; done) | simp_all) ?_
          simp
          rw [hk]
          iterate 11 (refine op_rule fun k hk => ?_; simp; rw [hk])
          refine nil_rule ?_
          rw [hk0]
          rw [n52]
          refine ret_rule ?_
          obtain rfl := Option.some.inj hF
          rw [r0]
          simp [Tryz.f3, bytesV_eq, List.map_set]
        ·
         have hg53 : ¬ r17.2 = true := by first | (rw [hg53r]; simp; done) | simpa using hg53r
         rw [if_neg hg53] at hF
         simp [hg53r]
         rw [hk]
         iterate 14 (refine op_rule fun k hk => ?_; simp; rw [hk])
         iterate 2 (refine op_rule fun k hk => ?_; simp [hg53r]; rw [hk])
         obtain ⟨r59, h60, hF⟩ := bind_some hF
         have c61 : call 15 [.sl 2 false (r42.1.map encGFile), .sl 2 f1 (p1.map encGFile)] = some (.bool r59, [.undef, .undef]) := by rw [hcd]; exact F15_ok n (d + 29) r42.1 p1 r59 h60
         refine op_rule fun k hk => ?_; simp [hg53r, c61]; rw [hk]
         refine op_rule fun k hk => ?_
         refine pick_ruleG (vc := .bool r59) rfl (unbarred_of (want := false) rfl rfl (by first | rfl | (simp [gv_pos]; done))) rfl rfl (fun hx => by first | (cases hx; done) | (rw [hg53r] at hx; cases hx; done) | (simp [hg53r] at hx; done) | (simp [hg53r]; done) | simp_all) (fun hx => by first | (cases hx; done) | (rw [hg53r] at hx; cases hx; done) | (simp [hg53r] at hx; done) | (simp [hg53r]; done) | simp_all) ?_
         simp
         rw [hk]
         refine op_rule fun k hk => ?_; simp; rw [hk]
         refine op_rule fun k hk => ?_
         refine guard_t rfl rfl rfl rfl (fun hg62r => ?_) fun hg62r => ?_
         ·
          have hg62 : r59 = true := by first | exact hg62r | simpa using hg62r
          rw [if_pos hg62] at hF
          simp [hg62r]
          rw [hk]
          iterate 3 (refine op_rule fun k hk => ?_; simp; rw [hk])
          obtain ⟨i63, h64, hF⟩ := bind_some hF
          have h64w : IntKind.i64.wrap ((p1.length : Int) + 1) = i63 := by rw [(rng_some h64).2, (rng_some h64).1]
          refine op_rule fun k hk => ?_; simp [h64w]; rw [hk]
          iterate 5 (refine op_rule fun k hk => ?_; simp; rw [hk])
          refine nil_rule ?_
          rw [hk0]
          rw [n52]
          refine ret_rule ?_
          obtain rfl := Option.some.inj hF
          rw [r0]
          simp [Tryz.f3, bytesV_eq, List.map_set]
         ·
          have hg62 : ¬ r59 = true := by first | (rw [hg62r]; simp; done) | simpa using hg62r
          rw [if_neg hg62] at hF
          simp [hg62r]
          rw [hk]
          iterate 9 (refine op_rule fun k hk => ?_; simp; rw [hk])
          refine nil_rule ?_
          rw [hk0]
          rw [n52]
          refine ret_rule ?_
          obtain rfl := Option.some.inj hF
          rw [r0]
          simp [Tryz.f3, bytesV_eq, List.map_set]
      refine seq_rule fun K66 n66 e66 r66 => ?_
      refine region_keep rfl rfl rfl rfl fun k0 hk0 => ?_
      iterate 3 (refine op_rule fun k hk => ?_; simp; rw [hk])
      refine nil_rule ?_
      rw [hk0]
      rw [n66]
      refine cond_rule rfl (fun hb => ?_) fun hb => ?_
      ·
       have hc83 : (!(p3 == p2)) = true := by first | exact hb | simpa using hb
       rw [if_pos hc83] at hF
       refine seq_rule fun K67 n67 e67 r67 => ?_
       refine region_rule rfl rfl rfl fun k0 hk0 => ?_
       iterate 2 (refine op_rule fun k hk => ?_; simp; rw [hk])
       obtain ⟨r68, h69, hF⟩ := bind_some hF
       have c70 : call 11 [.sl 2 f1 (p1.map encGFile), .str p3] = some (.tup [.own false 1 (r68.1.map encB), .int .i64 r68.2], [.undef, .undef]) := by rw [hcd]; exact F11_ok n (d + 13) p1 p3 r68 h69
       refine op_rule fun k hk => ?_; simp [c70]; rw [hk]
       iterate 5 (refine op_rule fun k hk => ?_; simp; rw [hk])
       refine nil_rule ?_
       rw [hk0]
       rw [n67]
       refine seq_rule fun K71 n71 e71 r71 => ?_
       refine region_rule rfl rfl rfl fun k0 hk0 => ?_
       iterate 2 (refine op_rule fun k hk => ?_; simp; rw [hk])
       obtain ⟨r72, h73, hF⟩ := bind_some hF
       have c74 : call 11 [.sl 2 false (r13.1.map encGFile), .str p3] = some (.tup [.own false 1 (r72.1.map encB), .int .i64 r72.2], [.undef, .undef]) := by rw [hcd]; exact F11_ok n (d + 13) r13.1 p3 r72 h73
       refine op_rule fun k hk => ?_; simp [c74]; rw [hk]
       iterate 5 (refine op_rule fun k hk => ?_; simp; rw [hk])
       refine nil_rule ?_
       rw [hk0]
       rw [n71]
       refine seq_rule fun K75 n75 e75 r75 => ?_
       refine region_rule rfl rfl rfl fun k0 hk0 => ?_
       iterate 4 (refine op_rule fun k hk => ?_; simp; rw [hk])
       refine op_rule fun k hk => ?_
       refine guard_f rfl rfl rfl rfl (fun hg76r => ?_) fun hg76r => ?_
       ·
        have hg76 : (r68.2 != r72.2) = true := by first | exact hg76r | simpa using hg76r
        rw [if_pos hg76] at hF
        simp [hg76r]
        rw [hk]
        iterate 4 (refine op_rule fun k hk => ?_; simp; rw [hk])
        refine nil_rule ?_
        rw [hk0]
        rw [n75]
        refine cond_rule rfl (fun hb => ?_) fun hb => by simp at hb
        refine seq_rule fun K77 n77 e77 r77 => ?_
        refine region_rule rfl rfl rfl fun k0 hk0 => ?_
        refine op_rule fun k hk => ?_; simp; rw [hk]
        refine nil_rule ?_
        rw [hk0]
        rw [n77]
        refine ret_rule ?_
        obtain rfl := Option.some.inj hF
        rw [r40, r0]
        simp [Tryz.f3, bytesV_eq, List.map_set]
       ·
        have hg76 : ¬ (r68.2 != r72.2) = true := by first | (rw [hg76r]; simp; done) | simpa using hg76r
        rw [if_neg hg76] at hF
        simp [hg76r]
        rw [hk]
        refine op_rule fun k hk => ?_; simp; rw [hk]
        obtain ⟨r78, h79, hF⟩ := bind_some hF
        have c80 : call 12 [.sl 1 false (r68.1.map encB), .sl 1 false (r72.1.map encB)] = some (.bool r78, [.undef, .undef]) := by rw [hcd]; exact F12_ok n (d + 29) r68.1 r72.1 r78 h79
        refine op_rule fun k hk => ?_; simp [c80]; rw [hk]
        iterate 2 (refine op_rule fun k hk => ?_; simp; rw [hk])
        refine nil_rule ?_
        rw [hk0]
        rw [n75]
        refine cond_rule rfl (fun hb => ?_) fun hb => ?_
        ·
         have hc82 : (!r78) = true := by first | exact hb | simpa using hb
         rw [if_pos hc82] at hF
         refine seq_rule fun K81 n81 e81 r81 => ?_
         refine region_rule rfl rfl rfl fun k0 hk0 => ?_
         refine op_rule fun k hk => ?_; simp; rw [hk]
         refine nil_rule ?_
         rw [hk0]
         rw [n81]
         refine ret_rule ?_
         obtain rfl := Option.some.inj hF
         rw [r40, r0]
         simp [Tryz.f3, bytesV_eq, List.map_set]
        ·
         have hc82 : ¬ (!r78) = true := by first | (rw [hb]; simp; done) | simpa using hb
         rw [if_neg hc82] at hF
         refine skip_rule ?_
         refine hJ40 () hF _ ?_
         first | rfl | (simp; done) | (simp [List.map_set, bytesV_eq, encGFile]; done) | (simp [List.map_set, bytesV_eq, encGFile, hg29r, hg34r, hg76r]; done)
      ·
       have hc83 : ¬ (!(p3 == p2)) = true := by first | (rw [hb]; simp; done) | simpa using hb
       rw [if_neg hc83] at hF
       refine skip_rule ?_
       refine hJ40 () hF _ ?_
       first | rfl | (simp; done) | (simp [List.map_set, bytesV_eq, encGFile]; done) | (simp [List.map_set, bytesV_eq, encGFile, hg29r, hg34r]; done)
end Go.Proofs.YtdddbifjkkhpbaaGreatDoor.G
