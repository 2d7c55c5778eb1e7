/- Functions of the program, run on plain values: what their plain functions say comes of them. No condition. -/
import Derived.Test.YtdddbifjkkhpbaaGreatDoorPrimsP
import Derived.Test.YtdddbifjkkhpbaaGreatDoorRunP2
namespace Go.Proofs.YtdddbifjkkhpbaaGreatDoor.G
open Go Go.Zv Go.Proofs Go.Proofs.YtdddbifjkkhpbaaGreatDoor
set_option maxRecDepth 100000
set_option maxHeartbeats 0
set_option linter.unusedSimpArgs false
set_option linter.unusedVariables false
attribute [local simp ↓] Go.Zv.into_gv Go.Zv.stale_gv Go.Zv.refAt_gv Go.Zv.rootIn_gv Go.Zv.hits_gv Go.Zv.dropRoot_nil Go.Zv.dropRoot_cons Go.Zv.drop_nil Go.Zv.drop_cons Go.Zv.dropRef_nil Go.Zv.dropRef_cons Go.Zv.runOps Go.Zv.gstep Go.Zv.evOpF cond_eq_ite Go.Zv.ev_assign Go.Zv.ev_move Go.Zv.ev_binOp Go.Zv.ev_pick Go.Zv.ev_call Go.Zv.ev_extract Go.Zv.ev_load Go.Zv.ev_fieldAddr Go.Zv.ev_indexAddr Go.Zv.ev_convert Go.Zv.ev_unOp Go.Zv.ev_slice Go.Zv.ev_index Go.Zv.ev_box Go.Zv.ev_build Go.Zv.ev_buildSlice Go.Zv.ev_makeSlice Go.Zv.ev_store Go.Zv.ev_alloc Go.Zv.ev_makeFunc Go.Zv.ev_field Go.Zv.ev_nilCheck Go.Zv.evBuiltin Go.Zv.appendSrc Go.Zv.appendTo Go.Zv.slen Go.Zv.load Go.Zv.coerce Go.Zv.evBin Go.Zv.evCall Go.Zv.evArgs Go.Zv.resAll Go.Zv.resOne Go.Zv.evConvert Go.Zv.evSlice Go.Zv.cutAt Go.Zv.bnd Go.Zv.share Go.Zv.reads Go.Zv.place Go.Zv.readArgs Go.Zv.readArg Go.Zv.loadCell Go.Zv.cellVal Go.Zv.storeOne Go.Zv.store Go.Zv.fillCells Go.Zv.partCells Go.Zv.copyTo Go.Zv.evCaps
attribute [local simp] Go.Zv.flag Go.Zv.tupOf Go.Zv.opnd Go.Zv.gt Go.Zv.put Go.Zv.setT Go.Zv.into Go.Zv.into1 Go.Zv.nilTo Go.Zv.ofConst Go.Zv.ofScalar Go.Zv.kindOf Go.Zv.idxOf Go.Zv.asInt Go.Zv.asBool Go.Zv.asStr Go.Zv.asSl Go.Zv.simple Go.Zv.linkFree Go.Zv.pack Go.Zv.maskOuts Go.Zv.cut Go.Zv.TK.isAgg Go.Zv.keepOnly Go.Zv.keepGo Go.Zv.mask Go.Zv.rootIn Go.Zv.rootIn1 Go.Zv.nbeq ecall efixed enests eshares ekeep eplan eu8 eflat etakes eturns Go.Zv.callArgs Go.Zv.argV Go.Zv.lent Go.Zv.distinct Go.Zv.heldIn Go.Zv.lend Go.Zv.restore Go.Zv.resOk Go.Zv.flatV Go.Zv.flat2 Go.Zv.flat1 Go.Zv.goodCells Go.Zv.boxed Go.Zv.bump Go.Zv.getP Go.Zv.cellAt Go.Zv.setP Go.Zv.setCellV Go.Zv.setRange Go.Zv.stripAll Go.Zv.V.strip Go.Zv.froz Go.Zv.hasOwn Go.Zv.shareCells Go.Zv.setPlace Go.Zv.stored Go.Zv.stale Go.Zv.stale1 Go.Zv.refAt Go.Zv.refAt1 Go.Zv.isSliceB Go.Zv.deepAt Go.Zv.isIptr Go.Zv.canon Go.Zv.canon1 Go.Zv.over Go.Zv.overGo Go.Zv.hits Go.Zv.hits1 Go.Zv.plainV Go.Zv.putB Go.Zv.isRefV Go.Zv.asOwn gv_true gv_false wrapL wrapLu8 wrapLu64 wrapLi32 wrapLu32
attribute [local simp] ety3 ety4 ety5 ety9 ety22 ety23 ety26 ety38 ety42 ety46 ety48 ety50 ety52 ety73 ety82 ety88 ety126 ety168 ety170 ety174 ety178 ety184 ety210 ti3 ti4 ti5 ti9 ti22 ti23 ti26 ti38 ti42 ti46 ti48 ti50 ti52 ti73 ti82 ti88 ti126 ti168 ti170 ti174 ti178 ti184 ti210 eu8_23 etk3 etn3 efl3 etk7 etn7 efl7 etk8 etn8 efl8 etk9 etn9 efl9 etk10 etn10 efl10 etk11 etn11 efl11 etk12 etn12 efl12 etk13 etn13 efl13 etk14 etn14 efl14 etk15 etn15 efl15 etk16 etn16 efl16 etk17 etn17 efl17 etk18 etn18 efl18 etk23 etn23 efl23 etk31 etn31 efl31 etk37 etn37 efl37 etk38 etn38 efl38 etk39 etn39 efl39 etk40 etn40 efl40 etk41 etn41 efl41 etk42 etn42 efl42 etk43 etn43 efl43 etk44 etn44 efl44 etk45 etn45 efl45 etk46 etn46 efl46 etk47 etn47 efl47 etk48 etn48 efl48 etk51 etn51 efl51 etk52 etn52 efl52 etk53 etn53 efl53 etk54 etn54 efl54 etk66 etn66 efl66 etk73 etn73 efl73 etk74 etn74 efl74 etk75 etn75 efl75 etk76 etn76 efl76 etk77 etn77 efl77 etk78 etn78 efl78 etk79 etn79 efl79 etk80 etn80 efl80 etk81 etn81 efl81 etk82 etn82 efl82 etk85 etn85 efl85 etk87 etn87 efl87 etk88 etn88 efl88 etk106 etn106 efl106 etk114 etn114 efl114 etk115 etn115 efl115 etk116 etn116 efl116 etk119 etn119 efl119 etk120 etn120 efl120 etk121 etn121 efl121 etk122 etn122 efl122 etk127 etn127 efl127 etk128 etn128 efl128 etk129 etn129 efl129 etk130 etn130 efl130 etk154 etn154 efl154 etk155 etn155 efl155 etk156 etn156 efl156 etk157 etn157 efl157 etk158 etn158 efl158 etk159 etn159 efl159 etk161 etn161 efl161 etk162 etn162 efl162 etk197 etn197 efl197 etk198 etn198 efl198 etk199 etn199 efl199 etk200 etn200 efl200 etk202 etn202 efl202 etk220 etn220 efl220 etk221 etn221 efl221 etk222 etn222 efl222 etk234 etn234 efl234 fi3 fi7 fi8 fi9 fi10 fi11 fi12 fi13 fi14 fi15 fi16 fi17 fi18 fi23 fi31 fi37 fi38 fi39 fi40 fi41 fi42 fi44 fi45 fi47 fi48 fi51 fi52 fi53 fi54 fi66 fi73 fi75 fi76 fi77 fi78 fi79 fi80 fi81 fi82 fi85 fi87 fi88 fi106 fi114 fi116 fi119 fi120 fi121 fi122 fi127 fi128 fi129 fi155 fi156 fi157 fi158 fi159 fi161 fi162 fi197 fi198 fi199 fi200 fi202 fi221 fi222
attribute [-simp] List.map_set List.map_map
theorem F114_ok (n d : Nat) {f1 : Bool} (p1 : List UInt8) (rs : Int) (hF : F114 n p1 = some rs) : callD tab prims n (d + 1) 114 [.sl 1 f1 (p1.map encB)] = some (.int .i64 rs, [.undef]) := by
 obtain ⟨call, hcd⟩ : ∃ call, call = callD tab prims n (d + 0) := ⟨_, rfl⟩
 refine call_rule (d := d + 0) (N114 _) rfl ?_
 rw [← hcd]
 show runBody (envOf tab fi114 call) n Tryz.f114 (codeOf Tryz.f114) [.sl 1 f1 (p1.map encB)] = some (.int .i64 rs, [.undef])
 unfold F114 at hF
 refine body_rule rfl rfl fun L hL K0 n0 r0 => ?_
 refine seq_rule fun K1 n1 e1 r1 => ?_
 refine region_rule rfl rfl rfl fun k0 hk0 => ?_
 refine op_rule fun k hk => ?_; simp; rw [hk]
 refine nil_rule ?_
 rw [hk0]
 rw [n1]
 refine seq_rule fun K2 n2 e2 r2 => ?_
 refine region_rule rfl rfl rfl fun k0 hk0 => ?_
 iterate 3 (refine op_rule fun k hk => ?_; simp; rw [hk])
 refine nil_rule ?_
 rw [hk0]
 rw [n2]
 refine seq_rule fun K3 n3 e3 r3 => ?_
 refine region_rule rfl rfl rfl fun k0 hk0 => ?_
 refine op_rule fun k hk => ?_; simp; rw [hk]
 refine nil_rule ?_
 rw [hk0]
 rw [n3]
 refine seq_rule fun K4 n4 e4 r4 => ?_
 refine block_rule fun K5 n5 x5 e5 r5 => ?_
 refine loop_rule ?_
 rw [hL]
 refine loop_F 3 [0, 3, 4] rfl rfl (fun b : Int => [.sl 1 f1 (p1.map encB), .undef, .undef, .int .i64 (p1.length : Int), .int .i64 b, .undef, .undef, .undef, .undef, .undef, .undef, .undef, .undef, .undef, .undef, .undef, .undef, .undef, .undef, .undef, .undef, .undef, .undef, .undef, .undef, .undef, .undef]) (fun m b => F114_L6 p1 m b = some rs) (fun b h => by simp [F114_L6] at h) ?_ n 0 _ hF (by first | rfl | (simp; done) | (simp [List.map_set, bytesV_eq, encB]; done))
 rintro m6 v7 hF L6 hL6 K'6 hnorm6 hexit6 hret6
 replace hF : F114_L6 p1 (m6 + 1) v7 = some rs := hF
 rw [F114_L6] at hF
 refine seq_rule fun K9 n9 e9 r9 => ?_
 refine seq_rule fun K10 n10 e10 r10 => ?_
 refine region_keep rfl rfl rfl rfl fun k0 hk0 => ?_
 iterate 3 (refine op_rule fun k hk => ?_; simp; rw [hk])
 refine nil_rule ?_
 rw [hk0]
 rw [n10]
 refine cond_rule rfl (fun hb => ?_) fun hb => ?_
 ·
  have hc24 : (decide (v7 < (p1.length : Int))) = true := by first | exact hb | simpa using hb
  rw [if_pos hc24] at hF
  refine skip_rule ?_
  rw [n9]
  refine seq_rule fun K11 n11 e11 r11 => ?_
  refine block_rule fun K12 n12 x12 e12 r12 => ?_
  refine seq_rule fun K13 n13 e13 r13 => ?_
  refine region_rule rfl rfl rfl fun k0 hk0 => ?_
  iterate 2 (refine op_rule fun k hk => ?_; simp; rw [hk])
  obtain ⟨x14, h15, hF⟩ := bind_some hF
  obtain ⟨⟨h15a, h15b⟩, h15c, h15d⟩ := ix_some h15
  have h15r : (p1.map encB).getD v7.toNat [] = encB x14 := by rw [List.getD_eq_getElem?_getD, List.getElem?_map, show p1[v7.toNat]? = _ from h15d]; rfl
  have h15ru : p1.getD v7.toNat 0 = x14 := by rw [List.getD_eq_getElem?_getD, show p1[v7.toNat]? = _ from h15d]; rfl
  refine op_rule fun k hk => ?_; simp [h15a, h15b, ↓h15r, ↓h15ru, encB]; rw [hk]
  iterate 2 (refine op_rule fun k hk => ?_; simp; rw [hk])
  refine nil_rule ?_
  rw [hk0]
  rw [n13]
  refine seq_rule fun K16 n16 e16 r16 => ?_
  refine region_rule rfl rfl rfl fun k0 hk0 => ?_
  iterate 2 (refine op_rule fun k hk => ?_; simp; rw [hk])
  refine nil_rule ?_
  rw [hk0]
  rw [n16]
  refine cond_rule rfl (fun hb => ?_) fun hb => ?_
  ·
   have hc22 : (decide ((x14.toNat : Int) ≥ 128)) = true := by first | exact hb | simpa using hb
   rw [if_pos hc22] at hF
   refine seq_rule fun K17 n17 e17 r17 => ?_
   refine region_rule rfl rfl rfl fun k0 hk0 => ?_
   iterate 3 (refine op_rule fun k hk => ?_; simp; rw [hk])
   obtain ⟨l18, h19, hF⟩ := bind_some hF
   obtain ⟨h19a, h19b, h19c, h19d, h19e⟩ := cutI_some h19
   have h19v0 : (p1.map encB).drop v7.toNat = l18.map encB := by rw [h19e] <;> first | (simp [List.map_take, List.map_drop]; done) | (rw [List.take_of_length_le (l := (p1.map encB)) (by simp)]; simp [List.map_take, List.map_drop])
   have h19v1 : ((p1.map encB).take p1.length).drop v7.toNat = l18.map encB := by rw [h19e] <;> first | (simp [List.map_take, List.map_drop]; done) | (rw [List.take_of_length_le (l := (p1.map encB)) (by simp)]; simp [List.map_take, List.map_drop])
   refine op_rule fun k hk => ?_; simp [h19a, h19b, h19c, h19d, h19v0, h19v1]; rw [hk]
   refine op_rule fun k hk => ?_; simp [asBytes_map]; rw [hk]
   cases hF
  ·
   have hc22 : ¬ (decide ((x14.toNat : Int) ≥ 128)) = true := by first | (rw [hb]; simp; done) | simpa using hb
   rw [if_neg hc22] at hF
   refine skip_rule ?_
   rw [n12, n11]
   refine region_rule rfl rfl rfl fun k0 hk0 => ?_
   refine op_rule fun k hk => ?_; simp; rw [hk]
   obtain ⟨i20, h21, hF⟩ := bind_some hF
   have h21w : IntKind.i64.wrap (v7 + 1) = i20 := by rw [(rng_some h21).2, (rng_some h21).1]
   refine op_rule fun k hk => ?_; simp [h21w]; rw [hk]
   refine op_rule fun k hk => ?_; simp; rw [hk]
   refine nil_rule ?_
   rw [hk0]
   refine hnorm6 _ i20 hF ?_
   first | rfl | (simp; done) | (simp [List.map_set, bytesV_eq, encB]; done)
 ·
  have hc24 : ¬ (decide (v7 < (p1.length : Int))) = true := by first | (rw [hb]; simp; done) | simpa using hb
  rw [if_neg hc24] at hF
  refine exit_rule ?_
  rw [e9, hexit6, x5, n4]
  refine seq_rule fun K23 n23 e23 r23 => ?_
  refine region_rule rfl rfl rfl fun k0 hk0 => ?_
  iterate 2 (refine op_rule fun k hk => ?_; simp; rw [hk])
  refine nil_rule ?_
  rw [hk0]
  rw [n23]
  refine ret_rule ?_
  obtain rfl := Option.some.inj hF
  rw [r0]
  simp [Tryz.f114, bytesV_eq, List.map_set]
theorem F47_ok (n d : Nat) {f1 : Bool} {f2 : Bool} (p1 : List UInt8) (p2 : List UInt8) (rs : Bool) (hF : F47 n p1 p2 = some rs) : callD tab prims n (d + 1) 47 [.sl 1 f1 (p1.map encB), .sl 1 f2 (p2.map encB)] = some (.bool rs, [.undef, .undef]) := by
 obtain ⟨call, hcd⟩ : ∃ call, call = callD tab prims n (d + 0) := ⟨_, rfl⟩
 refine call_rule (d := d + 0) (N47 _) rfl ?_
 rw [← hcd]
 show runBody (envOf tab fi47 call) n Tryz.f47 (codeOf Tryz.f47) [.sl 1 f1 (p1.map encB), .sl 1 f2 (p2.map encB)] = some (.bool rs, [.undef, .undef])
 unfold F47 at hF
 refine body_rule rfl rfl fun L hL K0 n0 r0 => ?_
 refine seq_rule fun K1 n1 e1 r1 => ?_
 refine region_rule rfl rfl rfl fun k0 hk0 => ?_
 refine op_rule fun k hk => ?_; simp; rw [hk]
 refine nil_rule ?_
 rw [hk0]
 rw [n1]
 refine seq_rule fun K2 n2 e2 r2 => ?_
 refine region_rule rfl rfl rfl fun k0 hk0 => ?_
 refine op_rule fun k hk => ?_; simp; rw [hk]
 refine op_rule fun k hk => ?_; simp [asBytes_map]; rw [hk]
 refine op_rule fun k hk => ?_; simp; rw [hk]
 refine op_rule fun k hk => ?_; simp [asBytes_map]; rw [hk]
 iterate 2 (refine op_rule fun k hk => ?_; simp; rw [hk])
 refine nil_rule ?_
 rw [hk0]
 rw [n2]
 refine ret_rule ?_
 obtain rfl := Option.some.inj hF
 rw [r0]
 simp [Tryz.f47, bytesV_eq, List.map_set]
theorem F116_ok (n d : Nat) {f1 : Bool} {f2 : Bool} (p1 : List UInt8) (p2 : List UInt8) (rs : Int) (hF : F116 n p1 p2 = some rs) : callD tab prims n (d + 2) 116 [.sl 1 f1 (p1.map encB), .sl 1 f2 (p2.map encB)] = some (.int .i64 rs, [.undef, .undef]) := by
 obtain ⟨call, hcd⟩ : ∃ call, call = callD tab prims n (d + 1) := ⟨_, rfl⟩
 refine call_rule (d := d + 1) (N116 _) rfl ?_
 rw [← hcd]
 show runBody (envOf tab fi116 call) n Tryz.f116 (codeOf Tryz.f116) [.sl 1 f1 (p1.map encB), .sl 1 f2 (p2.map encB)] = some (.int .i64 rs, [.undef, .undef])
 unfold F116 at hF
 refine body_rule rfl rfl fun L hL K0 n0 r0 => ?_
 refine seq_rule fun K1 n1 e1 r1 => ?_
 refine region_rule rfl rfl rfl fun k0 hk0 => ?_
 refine op_rule fun k hk => ?_; simp; rw [hk]
 refine nil_rule ?_
 rw [hk0]
 rw [n1]
 refine seq_rule fun K2 n2 e2 r2 => ?_
 refine region_rule rfl rfl rfl fun k0 hk0 => ?_
 iterate 3 (refine op_rule fun k hk => ?_; simp; rw [hk])
 refine nil_rule ?_
 rw [hk0]
 rw [n2]
 refine seq_rule fun K3 n3 e3 r3 => ?_
 refine block_rule fun K4 n4 x4 e4 r4 => ?_
 refine seq_rule fun K5 n5 e5 r5 => ?_
 refine region_rule rfl rfl rfl fun k0 hk0 => ?_
 iterate 3 (refine op_rule fun k hk => ?_; simp; rw [hk])
 refine nil_rule ?_
 rw [hk0]
 rw [n5]
 refine cond_rule rfl (fun hb => ?_) fun hb => ?_
 ·
  have hc26 : ((p2.length : Int) == 0) = true := by first | exact hb | simpa using hb
  rw [if_pos hc26] at hF
  refine seq_rule fun K6 n6 e6 r6 => ?_
  refine region_rule rfl rfl rfl fun k0 hk0 => ?_
  refine op_rule fun k hk => ?_; simp; rw [hk]
  refine nil_rule ?_
  rw [hk0]
  rw [n6]
  refine ret_rule ?_
  obtain rfl := Option.some.inj hF
  rw [r4, r3, r0]
  simp [Tryz.f116, bytesV_eq, List.map_set]
 ·
  have hc26 : ¬ ((p2.length : Int) == 0) = true := by first | (rw [hb]; simp; done) | simpa using hb
  rw [if_neg hc26] at hF
  refine seq_rule fun K7 n7 e7 r7 => ?_
  refine region_rule rfl rfl rfl fun k0 hk0 => ?_
  iterate 3 (refine op_rule fun k hk => ?_; simp; rw [hk])
  refine nil_rule ?_
  rw [hk0]
  rw [n7]
  refine cond_rule rfl (fun hb => ?_) fun hb => ?_
  ·
   have hc25 : ((p2.length : Int) == 1) = true := by first | exact hb | simpa using hb
   rw [if_pos hc25] at hF
   refine seq_rule fun K8 n8 e8 r8 => ?_
   refine region_rule rfl rfl rfl fun k0 hk0 => ?_
   iterate 2 (refine op_rule fun k hk => ?_; simp; rw [hk])
   obtain ⟨x9, h10, hF⟩ := bind_some hF
   obtain ⟨⟨h10a, h10b⟩, h10c, h10d⟩ := ix_some h10
   try simp at h10b
   have h10r : (p2.map encB).getD (Int.toNat 0) [] = encB x9 := by rw [List.getD_eq_getElem?_getD, List.getElem?_map, show p2[(Int.toNat 0)]? = _ from h10d]; rfl
   have h10ru : p2.getD (Int.toNat 0) 0 = x9 := by rw [List.getD_eq_getElem?_getD, show p2[(Int.toNat 0)]? = _ from h10d]; rfl
   have h10s : (p2.map encB).getD 0 [] = encB x9 := by rw [List.getD_eq_getElem?_getD, List.getElem?_map, show p2[0]? = _ from h10d]; rfl
   have h10su : p2.getD 0 0 = x9 := by rw [List.getD_eq_getElem?_getD, show p2[0]? = _ from h10d]; rfl
   refine op_rule fun k hk => ?_; simp [h10a, h10b, ↓h10r, ↓h10ru, ↓h10s, ↓h10su, encB]; rw [hk]
   refine op_rule fun k hk => ?_; simp; rw [hk]
   cases hF
  ·
   have hc25 : ¬ ((p2.length : Int) == 1) = true := by first | (rw [hb]; simp; done) | simpa using hb
   rw [if_neg hc25] at hF
   refine seq_rule fun K11 n11 e11 r11 => ?_
   refine region_rule rfl rfl rfl fun k0 hk0 => ?_
   iterate 5 (refine op_rule fun k hk => ?_; simp; rw [hk])
   refine nil_rule ?_
   rw [hk0]
   rw [n11]
   refine cond_rule rfl (fun hb => ?_) fun hb => ?_
   ·
    have hc24 : ((p2.length : Int) == (p1.length : Int)) = true := by first | exact hb | simpa using hb
    rw [if_pos hc24] at hF
    refine seq_rule fun K12 n12 e12 r12 => ?_
    refine seq_rule fun K13 n13 e13 r13 => ?_
    refine region_rule rfl rfl rfl fun k0 hk0 => ?_
    iterate 2 (refine op_rule fun k hk => ?_; simp; rw [hk])
    obtain ⟨r14, h15, hF⟩ := bind_some hF
    have c16 : call 47 [.sl 1 f2 (p2.map encB), .sl 1 f1 (p1.map encB)] = some (.bool r14, [.undef, .undef]) := by rw [hcd]; exact F47_ok n (d + 0) p2 p1 r14 h15
    refine op_rule fun k hk => ?_; simp [c16]; rw [hk]
    refine nil_rule ?_
    rw [hk0]
    rw [n13]
    refine cond_rule rfl (fun hb => ?_) fun hb => ?_
    ·
     have hc19 : r14 = true := by first | exact hb | simpa using hb
     rw [if_pos hc19] at hF
     refine seq_rule fun K17 n17 e17 r17 => ?_
     refine region_rule rfl rfl rfl fun k0 hk0 => ?_
     refine op_rule fun k hk => ?_; simp; rw [hk]
     refine nil_rule ?_
     rw [hk0]
     rw [n17]
     refine ret_rule ?_
     obtain rfl := Option.some.inj hF
     rw [r12, r4, r3, r0]
     simp [Tryz.f116, bytesV_eq, List.map_set]
    ·
     have hc19 : ¬ r14 = true := by first | (rw [hb]; simp; done) | simpa using hb
     rw [if_neg hc19] at hF
     refine skip_rule ?_
     rw [n12]
     refine seq_rule fun K18 n18 e18 r18 => ?_
     refine region_rule rfl rfl rfl fun k0 hk0 => ?_
     refine op_rule fun k hk => ?_; simp; rw [hk]
     refine nil_rule ?_
     rw [hk0]
     rw [n18]
     refine ret_rule ?_
     obtain rfl := Option.some.inj hF
     rw [r4, r3, r0]
     simp [Tryz.f116, bytesV_eq, List.map_set]
   ·
    have hc24 : ¬ ((p2.length : Int) == (p1.length : Int)) = true := by first | (rw [hb]; simp; done) | simpa using hb
    rw [if_neg hc24] at hF
    refine seq_rule fun K20 n20 e20 r20 => ?_
    refine region_rule rfl rfl rfl fun k0 hk0 => ?_
    iterate 5 (refine op_rule fun k hk => ?_; simp; rw [hk])
    refine nil_rule ?_
    rw [hk0]
    rw [n20]
    refine cond_rule rfl (fun hb => ?_) fun hb => ?_
    ·
     have hc23 : (decide ((p2.length : Int) > (p1.length : Int))) = true := by first | exact hb | simpa using hb
     rw [if_pos hc23] at hF
     refine seq_rule fun K21 n21 e21 r21 => ?_
     refine region_rule rfl rfl rfl fun k0 hk0 => ?_
     refine op_rule fun k hk => ?_; simp; rw [hk]
     refine nil_rule ?_
     rw [hk0]
     rw [n21]
     refine ret_rule ?_
     obtain rfl := Option.some.inj hF
     rw [r4, r3, r0]
     simp [Tryz.f116, bytesV_eq, List.map_set]
    ·
     have hc23 : ¬ (decide ((p2.length : Int) > (p1.length : Int))) = true := by first | (rw [hb]; simp; done) | simpa using hb
     rw [if_neg hc23] at hF
     refine seq_rule fun K22 n22 e22 r22 => ?_
     refine region_rule rfl rfl rfl fun k0 hk0 => ?_
     refine op_rule fun k hk => ?_; simp; rw [hk]
     cases hF
theorem F73_ok (n d : Nat) {f1 : Bool} {f2 : Bool} (p1 : List UInt8) (p2 : List UInt8) (rs : Int) (hF : F73 n p1 p2 = some rs) : callD tab prims n (d + 3) 73 [.sl 1 f1 (p1.map encB), .sl 1 f2 (p2.map encB)] = some (.int .i64 rs, [.undef, .undef]) := by
 obtain ⟨call, hcd⟩ : ∃ call, call = callD tab prims n (d + 2) := ⟨_, rfl⟩
 refine call_rule (d := d + 2) (N73 _) rfl ?_
 rw [← hcd]
 show runBody (envOf tab fi73 call) n Tryz.f73 (codeOf Tryz.f73) [.sl 1 f1 (p1.map encB), .sl 1 f2 (p2.map encB)] = some (.int .i64 rs, [.undef, .undef])
 unfold F73 at hF
 refine body_rule rfl rfl fun L hL K0 n0 r0 => ?_
 refine seq_rule fun K1 n1 e1 r1 => ?_
 refine region_rule rfl rfl rfl fun k0 hk0 => ?_
 refine op_rule fun k hk => ?_; simp; rw [hk]
 refine nil_rule ?_
 rw [hk0]
 rw [n1]
 refine seq_rule fun K2 n2 e2 r2 => ?_
 refine seq_rule fun K3 n3 e3 r3 => ?_
 refine region_rule rfl rfl rfl fun k0 hk0 => ?_
 iterate 3 (refine op_rule fun k hk => ?_; simp; rw [hk])
 refine nil_rule ?_
 rw [hk0]
 rw [n3]
 refine cond_rule rfl (fun hb => ?_) fun hb => ?_
 ·
  have hc46 : ((p2.length : Int) == 0) = true := by first | exact hb | simpa using hb
  rw [if_pos hc46] at hF
  refine seq_rule fun K4 n4 e4 r4 => ?_
  refine region_rule rfl rfl rfl fun k0 hk0 => ?_
  refine op_rule fun k hk => ?_; simp; rw [hk]
  obtain ⟨r5, h6, hF⟩ := bind_some hF
  have c7 : call 114 [.sl 1 f1 (p1.map encB)] = some (.int .i64 r5, [.undef]) := by rw [hcd]; exact F114_ok n (d + 1) p1 r5 h6
  refine op_rule fun k hk => ?_; simp [c7]; rw [hk]
  obtain ⟨i8, h9, hF⟩ := bind_some hF
  have h9w : IntKind.i64.wrap (r5 + 1) = i8 := by rw [(rng_some h9).2, (rng_some h9).1]
  refine op_rule fun k hk => ?_; simp [h9w]; rw [hk]
  refine op_rule fun k hk => ?_; simp; rw [hk]
  refine nil_rule ?_
  rw [hk0]
  rw [n4]
  refine ret_rule ?_
  obtain rfl := Option.some.inj hF
  rw [r2, r0]
  simp [Tryz.f73, bytesV_eq, List.map_set]
 ·
  have hc46 : ¬ ((p2.length : Int) == 0) = true := by first | (rw [hb]; simp; done) | simpa using hb
  rw [if_neg hc46] at hF
  refine skip_rule ?_
  rw [n2]
  refine seq_rule fun K10 n10 e10 r10 => ?_
  refine seq_rule fun K11 n11 e11 r11 => ?_
  refine region_rule rfl rfl rfl fun k0 hk0 => ?_
  iterate 3 (refine op_rule fun k hk => ?_; simp; rw [hk])
  refine nil_rule ?_
  rw [hk0]
  rw [n11]
  refine cond_rule rfl (fun hb => ?_) fun hb => ?_
  ·
   have hc45 : ((p2.length : Int) == 1) = true := by first | exact hb | simpa using hb
   rw [if_pos hc45] at hF
   refine seq_rule fun K12 n12 e12 r12 => ?_
   refine region_rule rfl rfl rfl fun k0 hk0 => ?_
   iterate 2 (refine op_rule fun k hk => ?_; simp; rw [hk])
   obtain ⟨x13, h14, hF⟩ := bind_some hF
   obtain ⟨⟨h14a, h14b⟩, h14c, h14d⟩ := ix_some h14
   try simp at h14b
   have h14r : (p2.map encB).getD (Int.toNat 0) [] = encB x13 := by rw [List.getD_eq_getElem?_getD, List.getElem?_map, show p2[(Int.toNat 0)]? = _ from h14d]; rfl
   have h14ru : p2.getD (Int.toNat 0) 0 = x13 := by rw [List.getD_eq_getElem?_getD, show p2[(Int.toNat 0)]? = _ from h14d]; rfl
   have h14s : (p2.map encB).getD 0 [] = encB x13 := by rw [List.getD_eq_getElem?_getD, List.getElem?_map, show p2[0]? = _ from h14d]; rfl
   have h14su : p2.getD 0 0 = x13 := by rw [List.getD_eq_getElem?_getD, show p2[0]? = _ from h14d]; rfl
   refine op_rule fun k hk => ?_; simp [h14a, h14b, ↓h14r, ↓h14ru, ↓h14s, ↓h14su, encB]; rw [hk]
   refine op_rule fun k hk => ?_; simp; rw [hk]
   have c17 : call 115 [.sl 1 f1 (p1.map encB), .int .u8 (x13.toNat : Int)] = some (.int .i64 (cnt8 (x13.toNat : Int).toNat.toUInt8 p1 : Nat), [.undef, .undef]) := by rw [hcd]; exact P115 n (d + 1) p1 (x13.toNat : Int) 
   refine op_rule fun k hk => ?_; simp [c17]; rw [hk]
   refine op_rule fun k hk => ?_; simp; rw [hk]
   refine nil_rule ?_
   rw [hk0]
   rw [n12]
   refine ret_rule ?_
   obtain rfl := Option.some.inj hF
   rw [r10, r0]
   simp [Tryz.f73, bytesV_eq, List.map_set]
  ·
   have hc45 : ¬ ((p2.length : Int) == 1) = true := by first | (rw [hb]; simp; done) | simpa using hb
   rw [if_neg hc45] at hF
   refine skip_rule ?_
   rw [n10]
   refine seq_rule fun K18 n18 e18 r18 => ?_
   refine region_rule rfl rfl rfl fun k0 hk0 => ?_
   refine op_rule fun k hk => ?_; simp; rw [hk]
   refine nil_rule ?_
   rw [hk0]
   rw [n18]
   refine block_rule fun K19 n19 x19 e19 r19 => ?_
   refine loop_rule ?_
   rw [hL]
   refine loop_F 6 [0, 1, 5] rfl rfl (fun b : (List UInt8) × Bool × Int => [.sl 1 b.2.1 (b.1.map encB), .sl 1 f2 (p2.map encB), .undef, .undef, .undef, .int .i64 b.2.2, .undef, .undef, .undef, .undef, .undef, .undef, .undef, .undef, .undef, .undef, .undef, .undef, .undef, .undef, .undef, .undef, .undef, .undef, .undef, .undef, .undef, .undef, .undef, .undef, .undef, .undef, .undef, .undef, .undef]) (fun m b => F73_L20 n p2 m b.1 b.2.2 = some rs) (fun b h => by simp [F73_L20] at h) ?_ n (p1, f1, 0) _ hF (by first | rfl | (simp; done) | (simp [List.map_set, bytesV_eq, encB]; done))
   rintro m20 ⟨v21, v22, v23⟩ hF L20 hL20 K'20 hnorm20 hexit20 hret20
   replace hF : F73_L20 n p2 (m20 + 1) v21 v23 = some rs := hF
   rw [F73_L20] at hF
   refine block_rule fun K27 n27 x27 e27 r27 => ?_
   refine seq_rule fun K28 n28 e28 r28 => ?_
   refine region_keep rfl rfl rfl rfl fun k0 hk0 => ?_
   iterate 2 (refine op_rule fun k hk => ?_; simp; rw [hk])
   obtain ⟨r29, h30, hF⟩ := bind_some hF
   have c31 : call 116 [.sl 1 v22 (v21.map encB), .sl 1 f2 (p2.map encB)] = some (.int .i64 r29, [.undef, .undef]) := by rw [hcd]; exact F116_ok n (d + 0) v21 p2 r29 h30
   refine op_rule fun k hk => ?_; simp [c31]; rw [hk]
   refine op_rule fun k hk => ?_; simp; rw [hk]
   refine nil_rule ?_
   rw [hk0]
   rw [n28]
   refine seq_rule fun K32 n32 e32 r32 => ?_
   refine seq_rule fun K33 n33 e33 r33 => ?_
   refine region_rule rfl rfl rfl fun k0 hk0 => ?_
   iterate 2 (refine op_rule fun k hk => ?_; simp; rw [hk])
   refine nil_rule ?_
   rw [hk0]
   rw [n33]
   refine cond_rule rfl (fun hb => ?_) fun hb => ?_
   ·
    have hc42 : (r29 == (-1)) = true := by first | exact hb | simpa using hb
    rw [if_pos hc42] at hF
    refine seq_rule fun K34 n34 e34 r34 => ?_
    refine region_rule rfl rfl rfl fun k0 hk0 => ?_
    iterate 2 (refine op_rule fun k hk => ?_; simp; rw [hk])
    refine nil_rule ?_
    rw [hk0]
    rw [n34]
    refine ret_rule ?_
    obtain rfl := Option.some.inj hF
    rw [r32, r27, hret20, r19, r0]
    simp [Tryz.f73, bytesV_eq, List.map_set]
   ·
    have hc42 : ¬ (r29 == (-1)) = true := by first | (rw [hb]; simp; done) | simpa using hb
    rw [if_neg hc42] at hF
    refine skip_rule ?_
    rw [n32]
    refine seq_rule fun K35 n35 e35 r35 => ?_
    refine region_rule rfl rfl rfl fun k0 hk0 => ?_
    refine op_rule fun k hk => ?_; simp; rw [hk]
    obtain ⟨i36, h37, hF⟩ := bind_some hF
    have h37w : IntKind.i64.wrap (v23 + 1) = i36 := by rw [(rng_some h37).2, (rng_some h37).1]
    refine op_rule fun k hk => ?_; simp [h37w]; rw [hk]
    refine op_rule fun k hk => ?_; simp; rw [hk]
    refine nil_rule ?_
    rw [hk0]
    rw [n35]
    refine region_rule rfl rfl rfl fun k0 hk0 => ?_
    iterate 4 (refine op_rule fun k hk => ?_; simp; rw [hk])
    obtain ⟨i38, h39, hF⟩ := bind_some hF
    have h39w : IntKind.i64.wrap (r29 + (p2.length : Int)) = i38 := by rw [(rng_some h39).2, (rng_some h39).1]
    refine op_rule fun k hk => ?_; simp [h39w]; rw [hk]
    obtain ⟨l40, h41, hF⟩ := bind_some hF
    obtain ⟨h41a, h41b, h41c, h41d, h41e⟩ := cutI_some h41
    have h41v0 : (v21.map encB).drop i38.toNat = l40.map encB := by rw [h41e] <;> first | (simp [List.map_take, List.map_drop]; done) | (rw [List.take_of_length_le (l := (v21.map encB)) (by simp)]; simp [List.map_take, List.map_drop])
    have h41v1 : ((v21.map encB).take v21.length).drop i38.toNat = l40.map encB := by rw [h41e] <;> first | (simp [List.map_take, List.map_drop]; done) | (rw [List.take_of_length_le (l := (v21.map encB)) (by simp)]; simp [List.map_take, List.map_drop])
    refine op_rule fun k hk => ?_; simp [h41a, h41b, h41c, h41d, h41v0, h41v1]; rw [hk]
    refine op_rule fun k hk => ?_; simp; rw [hk]
    refine nil_rule ?_
    rw [hk0]
    rw [n27]
    refine hnorm20 _ (l40, false, i36) hF ?_
    first | rfl | (simp; done) | (simp [List.map_set, bytesV_eq, encB]; done)
theorem F39_ok (n d : Nat) {f1 : Bool} (p1 : List UInt8) (rs : Int) (hF : F39 n p1 = some rs) : callD tab prims n (d + 4) 39 [.sl 1 f1 (p1.map encB)] = some (.int .i64 rs, [.undef]) := by
 obtain ⟨call, hcd⟩ : ∃ call, call = callD tab prims n (d + 3) := ⟨_, rfl⟩
 refine call_rule (d := d + 3) (N39 _) rfl ?_
 rw [← hcd]
 show runBody (envOf tab fi39 call) n Tryz.f39 (codeOf Tryz.f39) [.sl 1 f1 (p1.map encB)] = some (.int .i64 rs, [.undef])
 unfold F39 at hF
 refine body_rule rfl rfl fun L hL K0 n0 r0 => ?_
 refine seq_rule fun K1 n1 e1 r1 => ?_
 refine region_rule rfl rfl rfl fun k0 hk0 => ?_
 refine op_rule fun k hk => ?_; simp; rw [hk]
 refine nil_rule ?_
 rw [hk0]
 rw [n1]
 refine seq_rule fun K2 n2 e2 r2 => ?_
 refine seq_rule fun K3 n3 e3 r3 => ?_
 refine region_rule rfl rfl rfl fun k0 hk0 => ?_
 iterate 4 (refine op_rule fun k hk => ?_; simp; rw [hk])
 refine op_rule fun k hk => ?_
 refine guard_mf (v := .sl 1 f1 (p1.map encB)) rfl rfl rfl rfl (fun hb => by first | (simp [hb]; done) | (simp at hb; simp [hb, gv_pos]; done) | (simp (maxSteps := 1000000) [hb, gv_pos]; done)) ?_
 simp
 rw [hk]
 refine op_rule fun k hk => ?_
 refine guard_f rfl rfl rfl rfl (fun hg4r => ?_) fun hg4r => ?_
 ·
  have hg4 : (decide ((p1.length : Int) > 2000)) = true := by first | exact hg4r | simpa using hg4r
  rw [if_pos hg4] at hF
  simp [hg4r]
  rw [hk]
  iterate 3 (refine op_rule fun k hk => ?_; simp; rw [hk])
  refine nil_rule ?_
  rw [hk0]
  rw [n3]
  refine cond_rule rfl (fun hb => ?_) fun hb => by simp at hb
  refine seq_rule fun K5 n5 e5 r5 => ?_
  refine region_rule rfl rfl rfl fun k0 hk0 => ?_
  refine op_rule fun k hk => ?_; simp; rw [hk]
  refine nil_rule ?_
  rw [hk0]
  rw [n5]
  refine ret_rule ?_
  obtain rfl := Option.some.inj hF
  rw [r2, r0]
  simp [Tryz.f39, bytesV_eq, List.map_set]
 ·
  have hg4 : ¬ (decide ((p1.length : Int) > 2000)) = true := by first | (rw [hg4r]; simp; done) | simpa using hg4r
  rw [if_neg hg4] at hF
  have hg4n := hg4r
  try simp at hg4n
  simp [hg4r, hg4n, gv_pos, gv_neg, Go.Zv.chunks, List.range_succ]
  rw [hk]
  obtain ⟨r6, h7, hF⟩ := bind_some hF
  have c8 : call 73 [.sl 1 f1 (p1.map encB), .sl 1 false (([[.int .u8 10]] : List (List V)))] = some (.int .i64 r6, [.undef, .undef]) := by rw [hcd]; exact F73_ok n (d + 0) p1 ([(10 : UInt8)] : List UInt8) r6 h7
  refine op_rule fun k hk => ?_; simp [c8]; rw [hk]
  iterate 2 (refine op_rule fun k hk => ?_; simp; rw [hk])
  refine nil_rule ?_
  rw [hk0]
  rw [n3]
  refine cond_rule rfl (fun hb => ?_) fun hb => ?_
  ·
   have hc11 : (decide (r6 ≥ 60)) = true := by first | exact hb | simpa using hb
   rw [if_pos hc11] at hF
   refine seq_rule fun K9 n9 e9 r9 => ?_
   refine region_rule rfl rfl rfl fun k0 hk0 => ?_
   refine op_rule fun k hk => ?_; simp; rw [hk]
   refine nil_rule ?_
   rw [hk0]
   rw [n9]
   refine ret_rule ?_
   obtain rfl := Option.some.inj hF
   rw [r2, r0]
   simp [Tryz.f39, bytesV_eq, List.map_set]
  ·
   have hc11 : ¬ (decide (r6 ≥ 60)) = true := by first | (rw [hb]; simp; done) | simpa using hb
   rw [if_neg hc11] at hF
   refine skip_rule ?_
   rw [n2]
   refine seq_rule fun K10 n10 e10 r10 => ?_
   refine region_rule rfl rfl rfl fun k0 hk0 => ?_
   refine op_rule fun k hk => ?_; simp; rw [hk]
   refine nil_rule ?_
   rw [hk0]
   rw [n10]
   refine ret_rule ?_
   obtain rfl := Option.some.inj hF
   rw [r0]
   simp [Tryz.f39, bytesV_eq, List.map_set]
theorem F17_ok (n d : Nat) {f1 : Bool} (p1 : List GFile) (rs : Int) (hF : F17 n p1 = some rs) : callD tab prims n (d + 16) 17 [.sl 2 f1 (p1.map encGFile)] = some (.int .i64 rs, [.undef]) := by
 obtain ⟨call, hcd⟩ : ∃ call, call = callD tab prims n (d + 15) := ⟨_, rfl⟩
 refine call_rule (d := d + 15) (N17 _) rfl ?_
 rw [← hcd]
 show runBody (envOf tab fi17 call) n Tryz.f17 (codeOf Tryz.f17) [.sl 2 f1 (p1.map encGFile)] = some (.int .i64 rs, [.undef])
 unfold F17 at hF
 refine body_rule rfl rfl fun L hL K0 n0 r0 => ?_
 refine seq_rule fun K1 n1 e1 r1 => ?_
 refine region_rule rfl rfl rfl fun k0 hk0 => ?_
 refine op_rule fun k hk => ?_; simp; rw [hk]
 refine nil_rule ?_
 rw [hk0]
 rw [n1]
 refine seq_rule fun K2 n2 e2 r2 => ?_
 refine seq_rule fun K3 n3 e3 r3 => ?_
 refine region_rule rfl rfl rfl fun k0 hk0 => ?_
 iterate 3 (refine op_rule fun k hk => ?_; simp; rw [hk])
 refine nil_rule ?_
 rw [hk0]
 rw [n3]
 refine cond_rule rfl (fun hb => ?_) fun hb => ?_
 ·
  have hc63 : (decide ((p1.length : Int) > 12)) = true := by first | exact hb | simpa using hb
  rw [if_pos hc63] at hF
  refine seq_rule fun K4 n4 e4 r4 => ?_
  refine region_rule rfl rfl rfl fun k0 hk0 => ?_
  refine op_rule fun k hk => ?_; simp; rw [hk]
  refine nil_rule ?_
  rw [hk0]
  rw [n4]
  refine ret_rule ?_
  obtain rfl := Option.some.inj hF
  rw [r2, r0]
  simp [Tryz.f17, bytesV_eq, List.map_set]
 ·
  have hc63 : ¬ (decide ((p1.length : Int) > 12)) = true := by first | (rw [hb]; simp; done) | simpa using hb
  rw [if_neg hc63] at hF
  refine skip_rule ?_
  rw [n2]
  refine seq_rule fun K5 n5 e5 r5 => ?_
  refine seq_rule fun K6 n6 e6 r6 => ?_
  refine region_rule rfl rfl rfl fun k0 hk0 => ?_
  iterate 3 (refine op_rule fun k hk => ?_; simp; rw [hk])
  refine nil_rule ?_
  rw [hk0]
  rw [n6]
  refine block_rule fun K7 n7 x7 e7 r7 => ?_
  refine loop_rule ?_
  rw [hL]
  refine loop_F 4 [0, 11, 12, 13] rfl rfl (fun b : Int => [.sl 2 f1 (p1.map encGFile), .undef, .undef, .undef, .undef, .undef, .undef, .undef, .undef, .undef, .undef, .sl 2 f1 (p1.map encGFile), .int .i64 (p1.length : Int), .int .i64 b, .undef, .undef, .undef, .undef, .undef, .undef, .undef, .undef, .undef, .undef, .undef, .undef, .undef, .undef, .undef, .undef, .undef, .undef, .undef, .undef, .undef, .undef, .undef, .undef, .undef, .undef, .undef, .undef, .undef, .undef, .undef, .undef, .undef, .undef, .undef, .undef, .undef]) (fun m b => F17_L8 n p1 m b = some rs) (fun b h => by simp [F17_L8] at h) ?_ n 0 _ hF (by first | rfl | (simp; done) | (simp [List.map_set, bytesV_eq, encGFile]; done))
  rintro m8 v9 hF L8 hL8 K'8 hnorm8 hexit8 hret8
  replace hF : F17_L8 n p1 (m8 + 1) v9 = some rs := hF
  rw [F17_L8] at hF
  refine seq_rule fun K11 n11 e11 r11 => ?_
  refine region_keep rfl rfl rfl rfl fun k0 hk0 => ?_
  refine op_rule fun k hk => ?_; simp; rw [hk]
  refine nil_rule ?_
  rw [hk0]
  rw [n11]
  refine seq_rule fun K12 n12 e12 r12 => ?_
  refine cond_rule rfl (fun hb => ?_) fun hb => ?_
  ·
   have hc61 : (decide (v9 < (p1.length : Int))) = true := by first | exact hb | simpa using hb
   rw [if_pos hc61] at hF
   refine skip_rule ?_
   rw [n12]
   refine seq_rule fun K13 n13 e13 r13 => ?_
   refine block_rule fun K14 n14 x14 e14 r14 => ?_
   refine seq_rule fun K15 n15 e15 r15 => ?_
   refine region_rule rfl rfl rfl fun k0 hk0 => ?_
   refine op_rule fun k hk => ?_; simp; rw [hk]
   obtain ⟨x16, h17, hF⟩ := bind_some hF
   obtain ⟨⟨h17a, h17b⟩, h17c, h17d⟩ := ix_some h17
   have h17r : (p1.map encGFile).getD v9.toNat [] = encGFile x16 := by rw [List.getD_eq_getElem?_getD, List.getElem?_map, show p1[v9.toNat]? = _ from h17d]; rfl
   refine op_rule fun k hk => ?_; simp [h17a, h17b, ↓h17r, encGFile]; rw [hk]
   refine op_rule fun k hk => ?_; simp [List.range_succ]; rw [hk]
   iterate 3 (refine op_rule fun k hk => ?_; simp; rw [hk])
   refine nil_rule ?_
   rw [hk0]
   rw [n15]
   refine seq_rule fun K18 n18 e18 r18 => ?_
   refine region_plan rfl rfl fun k1 hk1 => ?_
   refine idx_nil ?_
   rw [hk1]
   refine steps_rule rfl (by simp) (by simp; rfl) (by simp; rfl) ?_
   refine steps_rule rfl (by simp) (by simp; rfl) (by simp; rfl) ?_
   obtain ⟨r19, h20, hF⟩ := bind_some hF
   have c21 : call 38 [.str x16.path_] = some (.bool r19, [.undef]) := by rw [hcd]; exact F38_ok n (d + 0) x16.path_ r19 h20
   refine steps_rule rfl (by simp [c21]) (by simp [c21]; rfl) (by simp [c21]; rfl) ?_
   refine steps_nil ?_
   refine idx_rule rfl fun k hk => ?_
   simp
   rw [hk]
   refine idx_rule rfl fun k hk => ?_
   simp
   rw [hk]
   refine idx_rule rfl fun k hk => ?_
   refine guard_mf (v := .int .i64 v9) rfl rfl rfl rfl (fun hb => by first | (simp [hb]; done) | (simp at hb; simp [hb, gv_pos]; done) | (simp (maxSteps := 1000000) [hb, gv_pos]; done)) ?_
   simp
   rw [hk]
   refine idx_rule rfl fun k hk => ?_
   refine guard_mf (v := .bool (decide (v9 > 0))) rfl rfl rfl rfl (fun hb => by first | (simp [hb]; done) | (simp at hb; simp [hb, gv_pos]; done) | (simp (maxSteps := 1000000) [hb, gv_pos]; done)) ?_
   simp
   rw [hk]
   refine idx_rule rfl fun k hk => ?_
   refine guard_mf (v := .bool (decide (v9 > 0))) rfl rfl rfl rfl (fun hb => by first | (simp [hb]; done) | (simp at hb; simp [hb, gv_pos]; done) | (simp (maxSteps := 1000000) [hb, gv_pos]; done)) ?_
   simp
   rw [hk]
   refine idx_rule rfl fun k hk => ?_
   refine guard_nt (v := .sl 2 f1 (p1.map encGFile)) rfl rfl rfl rfl (fun hp hb => by first | (simp [hp, hb]; done) | (simp at hp hb; simp [hp, hb, gv_pos]; done) | (simp (maxSteps := 1000000) [hp, hb, gv_pos]; done)) ?_
   simp
   rw [hk]
   refine idx_rule rfl fun k hk => ?_
   refine guard_nt (v := .int .i64 v9) rfl rfl rfl rfl (fun hp hb => by first | (simp [hp, hb]; done) | (simp at hp hb; simp [hp, hb, gv_pos]; done) | (simp (maxSteps := 1000000) [hp, hb, gv_pos]; done)) ?_
   simp
   rw [hk]
   refine idx_rule rfl fun k hk => ?_
   refine guard_ns (d := 25) rfl rfl rfl rfl (fun hp22 => ?_) fun hp22 => ?_
   ·
    have hc23 : r19 = true := by first | exact hp22 | simpa using hp22
    rw [if_pos hc23] at hF
    have hp22n := hp22
    try simp at hp22n
    skip
    refine guard_t rfl rfl rfl rfl (fun hg24r => ?_) fun hg24r => ?_
    ·
     have hg24 : (decide (v9 > 0)) = true := by first | exact hg24r | simpa using hg24r
     rw [if_pos hg24] at hF
     obtain ⟨i25, h26, hF⟩ := bind_some hF
     have h26w : IntKind.i64.wrap (v9 - 1) = i25 := by rw [(rng_some h26).2, (rng_some h26).1]
     have hg24n := hg24r
     try simp at hg24n
     simp [hg24r, hp22, hg24n, gv_pos, gv_neg, h26w]
     rw [hk]
     obtain ⟨x27, h28, hF⟩ := bind_some hF
     obtain ⟨⟨h28a, h28b⟩, h28c, h28d⟩ := ix_some h28
     have h28r : (p1.map encGFile).getD i25.toNat [] = encGFile x27 := by rw [List.getD_eq_getElem?_getD, List.getElem?_map, show p1[i25.toNat]? = _ from h28d]; rfl
     refine idx_rule rfl fun k hk => ?_
     simp [h28a, h28b, ↓h28r, encGFile]
     rw [hk]
     refine idx_rule rfl fun k hk => ?_
     simp
     rw [hk]
     refine idx_rule rfl fun k hk => ?_
     simp
     rw [hk]
     refine idx_rule rfl fun k hk => ?_
     simp
     rw [hk]
     refine idx_rule rfl fun k hk => ?_
     simp
     rw [hk]
     refine idx_rule rfl fun k hk => ?_
     simp
     rw [hk]
     refine idx_rule rfl fun k hk => ?_
     simp [hp22, hp22n]
     rw [hk]
     refine idx_rule rfl fun k hk => ?_
     refine pick_ruleG (vc := .bool (!Op.bytesLess x27.path_ x16.path_)) rfl (unbarred_none rfl) rfl rfl (fun hx => by first | (cases hx; done) | (rw [hp22] at hx; cases hx; done) | (simp [hp22] at hx; done) | (simp [hp22]; done) | simp_all) (fun hx => by first | (cases hx; done) | (rw [hp22] at hx; cases hx; done) | (simp [hp22] at hx; done) | (simp [hp22]; done) | simp_all) ?_
     simp
     rw [hk]
     refine idx_nil ?_
     rw [n18]
     refine cond_rule rfl (fun hb => ?_) fun hb => ?_
     ·
      have hc32 : (!Op.bytesLess x27.path_ x16.path_) = true := by first | exact hb | simpa using hb
      rw [if_pos hc32] at hF
      refine seq_rule fun K29 n29 e29 r29 => ?_
      refine region_rule rfl rfl rfl fun k0 hk0 => ?_
      refine op_rule fun k hk => ?_; simp; rw [hk]
      refine nil_rule ?_
      rw [hk0]
      rw [n29]
      refine ret_rule ?_
      obtain rfl := Option.some.inj hF
      rw [r14, r13, hret8, r7, r5, r0]
      simp [Tryz.f17, bytesV_eq, List.map_set]
     ·
      have hc32 : ¬ (!Op.bytesLess x27.path_ x16.path_) = true := by first | (rw [hb]; simp; done) | simpa using hb
      rw [if_neg hc32] at hF
      refine skip_rule ?_
      rw [n14, n13]
      refine region_rule rfl rfl rfl fun k0 hk0 => ?_
      obtain ⟨i30, h31, hF⟩ := bind_some hF
      have h31w : IntKind.i64.wrap (v9 + 1) = i30 := by rw [(rng_some h31).2, (rng_some h31).1]
      refine op_rule fun k hk => ?_; simp [h31w]; rw [hk]
      refine op_rule fun k hk => ?_; simp; rw [hk]
      refine nil_rule ?_
      rw [hk0]
      refine hnorm8 _ i30 hF ?_
      first | rfl | (simp; done) | (simp [List.map_set, bytesV_eq, encGFile]; done) | (simp [List.map_set, bytesV_eq, encGFile, hp22, hg24r]; done)
    ·
     have hg24 : ¬ (decide (v9 > 0)) = true := by first | (rw [hg24r]; simp; done) | simpa using hg24r
     rw [if_neg hg24] at hF
     have hg24n := hg24r
     try simp at hg24n
     simp [hg24r, hp22, hg24n, gv_pos, gv_neg]
     rw [hk]
     refine idx_rule rfl fun k hk => ?_
     simp
     rw [hk]
     refine idx_rule rfl fun k hk => ?_
     simp
     rw [hk]
     refine idx_rule rfl fun k hk => ?_
     simp
     rw [hk]
     refine idx_rule rfl fun k hk => ?_
     simp
     rw [hk]
     refine idx_rule rfl fun k hk => ?_
     simp
     rw [hk]
     refine idx_rule rfl fun k hk => ?_
     simp
     rw [hk]
     refine idx_rule rfl fun k hk => ?_
     simp [hp22, hp22n]
     rw [hk]
     refine idx_rule rfl fun k hk => ?_
     refine pick_ruleG (vc := .bool false) rfl (unbarred_none rfl) rfl rfl (fun hx => by first | (cases hx; done) | (rw [hp22] at hx; cases hx; done) | (simp [hp22] at hx; done) | (simp [hp22]; done) | simp_all) (fun hx => by first | (cases hx; done) | (rw [hp22] at hx; cases hx; done) | (simp [hp22] at hx; done) | (simp [hp22]; done) | simp_all) ?_
     simp
     rw [hk]
     refine idx_nil ?_
     rw [n18]
     refine cond_rule rfl (fun hb => by simp at hb) fun hb => ?_
     refine skip_rule ?_
     rw [n14, n13]
     refine region_rule rfl rfl rfl fun k0 hk0 => ?_
     obtain ⟨i33, h34, hF⟩ := bind_some hF
     have h34w : IntKind.i64.wrap (v9 + 1) = i33 := by rw [(rng_some h34).2, (rng_some h34).1]
     refine op_rule fun k hk => ?_; simp [h34w]; rw [hk]
     refine op_rule fun k hk => ?_; simp; rw [hk]
     refine nil_rule ?_
     rw [hk0]
     refine hnorm8 _ i33 hF ?_
     first | rfl | (simp; done) | (simp [List.map_set, bytesV_eq, encGFile]; done) | (simp [List.map_set, bytesV_eq, encGFile, hp22, hg24r]; done)
   ·
    have hc23 : ¬ r19 = true := by first | (rw [hp22]; simp; done) | simpa using hp22
    rw [if_neg hc23] at hF
    have hp22n := hp22
    try simp at hp22n
    simp [hp22]
    rw [hk]
    refine idx_rule rfl fun k hk => ?_
    simp
    rw [hk]
    refine idx_rule rfl fun k hk => ?_
    simp
    rw [hk]
    refine idx_rule rfl fun k hk => ?_
    simp
    rw [hk]
    refine idx_rule rfl fun k hk => ?_
    simp
    rw [hk]
    refine idx_rule rfl fun k hk => ?_
    simp
    rw [hk]
    refine idx_rule rfl fun k hk => ?_
    simp
    rw [hk]
    refine idx_rule rfl fun k hk => ?_
    simp [hp22, hp22n]
    rw [hk]
    refine idx_rule rfl fun k hk => ?_
    refine pick_ruleG (vc := .bool true) rfl (unbarred_none rfl) rfl rfl (fun hx => by first | (cases hx; done) | (rw [hp22] at hx; cases hx; done) | (simp [hp22] at hx; done) | (simp [hp22]; done) | simp_all) (fun hx => by first | (cases hx; done) | (rw [hp22] at hx; cases hx; done) | (simp [hp22] at hx; done) | (simp [hp22]; done) | simp_all) ?_
    simp
    rw [hk]
    refine idx_nil ?_
    rw [n18]
    refine cond_rule rfl (fun hb => ?_) fun hb => by simp at hb
    refine seq_rule fun K35 n35 e35 r35 => ?_
    refine region_rule rfl rfl rfl fun k0 hk0 => ?_
    refine op_rule fun k hk => ?_; simp; rw [hk]
    refine nil_rule ?_
    rw [hk0]
    rw [n35]
    refine ret_rule ?_
    obtain rfl := Option.some.inj hF
    rw [r14, r13, hret8, r7, r5, r0]
    simp [Tryz.f17, bytesV_eq, List.map_set]
  ·
   have hc61 : ¬ (decide (v9 < (p1.length : Int))) = true := by first | (rw [hb]; simp; done) | simpa using hb
   rw [if_neg hc61] at hF
   refine exit_rule ?_
   rw [e12, hexit8, x7, n5]
   refine seq_rule fun K36 n36 e36 r36 => ?_
   refine seq_rule fun K37 n37 e37 r37 => ?_
   refine region_rule rfl rfl rfl fun k0 hk0 => ?_
   iterate 3 (refine op_rule fun k hk => ?_; simp; rw [hk])
   refine nil_rule ?_
   rw [hk0]
   rw [n37]
   refine block_rule fun K38 n38 x38 e38 r38 => ?_
   refine loop_rule ?_
   rw [hL]
   refine loop_F 10 [38, 39, 40] rfl rfl (fun b : Int => [.undef, .undef, .undef, .undef, .undef, .undef, .undef, .undef, .undef, .undef, .undef, .undef, .undef, .undef, .undef, .undef, .undef, .undef, .undef, .undef, .undef, .undef, .undef, .undef, .undef, .undef, .undef, .undef, .undef, .undef, .undef, .undef, .undef, .undef, .undef, .undef, .undef, .undef, .sl 2 f1 (p1.map encGFile), .int .i64 (p1.length : Int), .int .i64 b, .undef, .undef, .undef, .undef, .undef, .undef, .undef, .undef, .undef, .undef]) (fun m b => F17_L39 n p1 m b = some rs) (fun b h => by simp [F17_L39] at h) ?_ n 0 _ hF (by first | rfl | (simp; done) | (simp [List.map_set, bytesV_eq, encGFile]; done))
   rintro m39 v40 hF L39 hL39 K'39 hnorm39 hexit39 hret39
   replace hF : F17_L39 n p1 (m39 + 1) v40 = some rs := hF
   rw [F17_L39] at hF
   refine seq_rule fun K42 n42 e42 r42 => ?_
   refine region_keep rfl rfl rfl rfl fun k0 hk0 => ?_
   refine op_rule fun k hk => ?_; simp; rw [hk]
   refine nil_rule ?_
   rw [hk0]
   rw [n42]
   refine seq_rule fun K43 n43 e43 r43 => ?_
   refine cond_rule rfl (fun hb => ?_) fun hb => ?_
   ·
    have hc59 : (decide (v40 < (p1.length : Int))) = true := by first | exact hb | simpa using hb
    rw [if_pos hc59] at hF
    refine skip_rule ?_
    rw [n43]
    refine seq_rule fun K44 n44 e44 r44 => ?_
    refine block_rule fun K45 n45 x45 e45 r45 => ?_
    refine seq_rule fun K46 n46 e46 r46 => ?_
    refine region_rule rfl rfl rfl fun k0 hk0 => ?_
    obtain ⟨x47, h48, hF⟩ := bind_some hF
    obtain ⟨⟨h48a, h48b⟩, h48c, h48d⟩ := ix_some h48
    have h48r : (p1.map encGFile).getD v40.toNat [] = encGFile x47 := by rw [List.getD_eq_getElem?_getD, List.getElem?_map, show p1[v40.toNat]? = _ from h48d]; rfl
    refine op_rule fun k hk => ?_; simp [h48a, h48b, ↓h48r, encGFile]; rw [hk]
    refine op_rule fun k hk => ?_; simp [List.range_succ]; rw [hk]
    iterate 2 (refine op_rule fun k hk => ?_; simp; rw [hk])
    refine nil_rule ?_
    rw [hk0]
    rw [n46]
    refine seq_rule fun K49 n49 e49 r49 => ?_
    refine region_rule rfl rfl rfl fun k0 hk0 => ?_
    iterate 2 (refine op_rule fun k hk => ?_; simp; rw [hk])
    obtain ⟨r50, h51, hF⟩ := bind_some hF
    have c52 : call 39 [.sl 1 false (x47.text_.map encB)] = some (.int .i64 r50, [.undef]) := by rw [hcd]; exact F39_ok n (d + 11) x47.text_ r50 h51
    refine op_rule fun k hk => ?_; simp [c52]; rw [hk]
    refine op_rule fun k hk => ?_; simp; rw [hk]
    refine nil_rule ?_
    rw [hk0]
    rw [n49]
    refine seq_rule fun K53 n53 e53 r53 => ?_
    refine region_rule rfl rfl rfl fun k0 hk0 => ?_
    iterate 2 (refine op_rule fun k hk => ?_; simp; rw [hk])
    refine nil_rule ?_
    rw [hk0]
    rw [n53]
    refine cond_rule rfl (fun hb => ?_) fun hb => ?_
    ·
     have hc57 : (r50 != 0) = true := by first | exact hb | simpa using hb
     rw [if_pos hc57] at hF
     refine seq_rule fun K54 n54 e54 r54 => ?_
     refine region_rule rfl rfl rfl fun k0 hk0 => ?_
     iterate 2 (refine op_rule fun k hk => ?_; simp; rw [hk])
     refine nil_rule ?_
     rw [hk0]
     rw [n54]
     refine ret_rule ?_
     obtain rfl := Option.some.inj hF
     rw [r45, r44, hret39, r38, r36, r0]
     simp [Tryz.f17, bytesV_eq, List.map_set]
    ·
     have hc57 : ¬ (r50 != 0) = true := by first | (rw [hb]; simp; done) | simpa using hb
     rw [if_neg hc57] at hF
     refine skip_rule ?_
     rw [n45, n44]
     refine region_rule rfl rfl rfl fun k0 hk0 => ?_
     obtain ⟨i55, h56, hF⟩ := bind_some hF
     have h56w : IntKind.i64.wrap (v40 + 1) = i55 := by rw [(rng_some h56).2, (rng_some h56).1]
     refine op_rule fun k hk => ?_; simp [h56w]; rw [hk]
     refine op_rule fun k hk => ?_; simp; rw [hk]
     refine nil_rule ?_
     rw [hk0]
     refine hnorm39 _ i55 hF ?_
     first | rfl | (simp; done) | (simp [List.map_set, bytesV_eq, encGFile]; done)
   ·
    have hc59 : ¬ (decide (v40 < (p1.length : Int))) = true := by first | (rw [hb]; simp; done) | simpa using hb
    rw [if_neg hc59] at hF
    refine exit_rule ?_
    rw [e43, hexit39, x38, n36]
    refine seq_rule fun K58 n58 e58 r58 => ?_
    refine region_rule rfl rfl rfl fun k0 hk0 => ?_
    refine op_rule fun k hk => ?_; simp; rw [hk]
    refine nil_rule ?_
    rw [hk0]
    rw [n58]
    refine ret_rule ?_
    obtain rfl := Option.some.inj hF
    rw [r0]
    simp [Tryz.f17, bytesV_eq, List.map_set]
theorem F41_ok (n d : Nat) {f1 : Bool} (p1 : List GFile) (rs : (List GFile)) (hF : F41 n p1 = some rs) : callD tab prims n (d + 2) 41 [.sl 2 f1 (p1.map encGFile)] = some (.own false 2 (rs.map encGFile), [.undef]) := by
 obtain ⟨call, hcd⟩ : ∃ call, call = callD tab prims n (d + 1) := ⟨_, rfl⟩
 refine call_rule (d := d + 1) (N41 _) rfl ?_
 rw [← hcd]
 show runBody (envOf tab fi41 call) n Tryz.f41 (codeOf Tryz.f41) [.sl 2 f1 (p1.map encGFile)] = some (.own false 2 (rs.map encGFile), [.undef])
 unfold F41 at hF
 refine body_rule rfl rfl fun L hL K0 n0 r0 => ?_
 refine seq_rule fun K1 n1 e1 r1 => ?_
 refine region_rule rfl rfl rfl fun k0 hk0 => ?_
 refine op_rule fun k hk => ?_; simp; rw [hk]
 refine nil_rule ?_
 rw [hk0]
 rw [n1]
 refine seq_rule fun K2 n2 e2 r2 => ?_
 refine region_rule rfl rfl rfl fun k0 hk0 => ?_
 refine op_rule fun k hk => ?_; simp; rw [hk]
 refine nil_rule ?_
 rw [hk0]
 rw [n2]
 refine seq_rule fun K3 n3 e3 r3 => ?_
 refine seq_rule fun K4 n4 e4 r4 => ?_
 refine region_rule rfl rfl rfl fun k0 hk0 => ?_
 iterate 3 (refine op_rule fun k hk => ?_; simp; rw [hk])
 refine nil_rule ?_
 rw [hk0]
 rw [n4]
 refine block_rule fun K5 n5 x5 e5 r5 => ?_
 refine loop_rule ?_
 rw [hL]
 refine loop_F 3 [3, 6, 7, 8] rfl rfl (fun b : (List GFile) × Int => [.undef, .undef, .undef, .own false 2 (b.1.map encGFile), .undef, .undef, .sl 2 f1 (p1.map encGFile), .int .i64 (p1.length : Int), .int .i64 b.2, .undef, .undef, .undef, .undef, .undef, .undef, .undef, .undef, .undef, .undef, .undef, .undef, .undef, .undef]) (fun m b => F41_L6 p1 m b.1 b.2 = some rs) (fun b h => by simp [F41_L6] at h) ?_ n (([] : List GFile), 0) _ hF (by first | rfl | (simp; done) | (simp [List.map_set, bytesV_eq, encGFile]; done))
 rintro m6 ⟨v7, v8⟩ hF L6 hL6 K'6 hnorm6 hexit6 hret6
 replace hF : F41_L6 p1 (m6 + 1) v7 v8 = some rs := hF
 rw [F41_L6] at hF
 refine seq_rule fun K11 n11 e11 r11 => ?_
 refine region_keep rfl rfl rfl rfl fun k0 hk0 => ?_
 refine op_rule fun k hk => ?_; simp; rw [hk]
 refine nil_rule ?_
 rw [hk0]
 rw [n11]
 refine seq_rule fun K12 n12 e12 r12 => ?_
 refine cond_rule rfl (fun hb => ?_) fun hb => ?_
 ·
  have hc25 : (decide (v8 < (p1.length : Int))) = true := by first | exact hb | simpa using hb
  rw [if_pos hc25] at hF
  refine skip_rule ?_
  rw [n12]
  refine seq_rule fun K13 n13 e13 r13 => ?_
  refine block_rule fun K14 n14 x14 e14 r14 => ?_
  refine seq_rule fun K15 n15 e15 r15 => ?_
  refine region_rule rfl rfl rfl fun k0 hk0 => ?_
  obtain ⟨x16, h17, hF⟩ := bind_some hF
  obtain ⟨⟨h17a, h17b⟩, h17c, h17d⟩ := ix_some h17
  have h17r : (p1.map encGFile).getD v8.toNat [] = encGFile x16 := by rw [List.getD_eq_getElem?_getD, List.getElem?_map, show p1[v8.toNat]? = _ from h17d]; rfl
  refine op_rule fun k hk => ?_; simp [h17a, h17b, ↓h17r, encGFile]; rw [hk]
  refine op_rule fun k hk => ?_; simp [List.range_succ]; rw [hk]
  iterate 2 (refine op_rule fun k hk => ?_; simp; rw [hk])
  refine nil_rule ?_
  rw [hk0]
  rw [n15]
  refine region_plan rfl rfl fun k1 hk1 => ?_
  refine idx_rule rfl fun k hk => ?_
  simp
  rw [hk]
  refine idx_nil ?_
  rw [hk1]
  refine steps_rule rfl (by simp) (by simp; rfl) (by simp; rfl) ?_
  refine steps_rule rfl (by simp) (by simp; rfl) (by simp; rfl) ?_
  refine steps_rule rfl (by simp) (by simp; rfl) (by simp; rfl) ?_
  refine steps_rule rfl (by simp) (by simp; rfl) (by simp; rfl) ?_
  obtain ⟨r18, h19, hF⟩ := bind_some hF
  have c20 : call 43 [.sl 1 false (x16.text_.map encB)] = some (.own false 1 (r18.map encB), [.undef]) := by rw [hcd]; exact P43 n (d + 0) x16.text_ r18 h19
  refine steps_rule rfl (by simp [c20]) (by simp [c20]; rfl) (by simp [c20]; rfl) ?_
  refine steps_rule rfl (by simp) (by simp; rfl) (by simp; rfl) ?_
  refine steps_rule rfl (by simp [Go.Zv.chunks, List.range_succ]) (by simp [Go.Zv.chunks, List.range_succ]; rfl) (by simp [Go.Zv.chunks, List.range_succ]; rfl) ?_
  obtain ⟨_, h21, hF⟩ := bind_some hF
  replace h21 := need_some h21
  refine steps_rule rfl (by simp [h21]) (by simp [h21]; rfl) (by simp [h21]; rfl) ?_
  refine steps_nil ?_
  refine idx_rule rfl fun k hk => ?_
  simp
  rw [hk]
  refine idx_nil ?_
  rw [n14, n13]
  refine region_rule rfl rfl rfl fun k0 hk0 => ?_
  obtain ⟨i22, h23, hF⟩ := bind_some hF
  have h23w : IntKind.i64.wrap (v8 + 1) = i22 := by rw [(rng_some h23).2, (rng_some h23).1]
  refine op_rule fun k hk => ?_; simp [h23w]; rw [hk]
  refine op_rule fun k hk => ?_; simp; rw [hk]
  refine nil_rule ?_
  rw [hk0]
  refine hnorm6 _ ((v7 ++ ([(⟨x16.path_, r18⟩ : GFile)] : List GFile)), i22) hF ?_
  first | rfl | (simp; done) | (simp [List.map_set, bytesV_eq, encGFile]; done)
 ·
  have hc25 : ¬ (decide (v8 < (p1.length : Int))) = true := by first | (rw [hb]; simp; done) | simpa using hb
  rw [if_neg hc25] at hF
  refine exit_rule ?_
  rw [e12, hexit6, x5, n3]
  refine seq_rule fun K24 n24 e24 r24 => ?_
  refine region_rule rfl rfl rfl fun k0 hk0 => ?_
  iterate 2 (refine op_rule fun k hk => ?_; simp; rw [hk])
  refine nil_rule ?_
  rw [hk0]
  rw [n24]
  refine ret_rule ?_
  obtain rfl := Option.some.inj hF
  rw [r0]
  simp [Tryz.f41, encGFile, bytesV_eq, List.map_set]
theorem F119_ok (n d : Nat) (p1 : List UInt8) (p2 : List UInt8) (rs : Int) (hF : F119 n p1 p2 = some rs) : callD tab prims n (d + 2) 119 [.str p1, .str p2] = some (.int .i64 rs, [.undef, .undef]) := by
 obtain ⟨call, hcd⟩ : ∃ call, call = callD tab prims n (d + 1) := ⟨_, rfl⟩
 refine call_rule (d := d + 1) (N119 _) rfl ?_
 rw [← hcd]
 show runBody (envOf tab fi119 call) n Tryz.f119 (codeOf Tryz.f119) [.str p1, .str p2] = some (.int .i64 rs, [.undef, .undef])
 unfold F119 at hF
 refine body_rule rfl rfl fun L hL K0 n0 r0 => ?_
 refine seq_rule fun K1 n1 e1 r1 => ?_
 refine region_rule rfl rfl rfl fun k0 hk0 => ?_
 refine op_rule fun k hk => ?_; simp; rw [hk]
 refine nil_rule ?_
 rw [hk0]
 rw [n1]
 refine seq_rule fun K2 n2 e2 r2 => ?_
 refine region_rule rfl rfl rfl fun k0 hk0 => ?_
 iterate 2 (refine op_rule fun k hk => ?_; simp; rw [hk])
 have c5 : call 154 [.str p1, .str p2] = some (.int .i64 (Lib.compareBytes p1 p2), [.undef, .undef]) := by rw [hcd]; exact P154 n (d + 0) p1 p2 
 refine op_rule fun k hk => ?_; simp [c5]; rw [hk]
 refine op_rule fun k hk => ?_; simp; rw [hk]
 refine nil_rule ?_
 rw [hk0]
 rw [n2]
 refine ret_rule ?_
 obtain rfl := Option.some.inj hF
 rw [r0]
 simp [Tryz.f119, bytesV_eq, List.map_set]
theorem F77_ok (n d : Nat) (p1 : List UInt8) (p2 : List UInt8) (rs : Int) (hF : F77 n p1 p2 = some rs) : callD tab prims n (d + 3) 77 [.str p1, .str p2] = some (.int .i64 rs, [.undef, .undef]) := by
 obtain ⟨call, hcd⟩ : ∃ call, call = callD tab prims n (d + 2) := ⟨_, rfl⟩
 refine call_rule (d := d + 2) (N77 _) rfl ?_
 rw [← hcd]
 show runBody (envOf tab fi77 call) n Tryz.f77 (codeOf Tryz.f77) [.str p1, .str p2] = some (.int .i64 rs, [.undef, .undef])
 unfold F77 at hF
 refine body_rule rfl rfl fun L hL K0 n0 r0 => ?_
 refine seq_rule fun K1 n1 e1 r1 => ?_
 refine region_rule rfl rfl rfl fun k0 hk0 => ?_
 refine op_rule fun k hk => ?_; simp; rw [hk]
 refine nil_rule ?_
 rw [hk0]
 rw [n1]
 refine seq_rule fun K2 n2 e2 r2 => ?_
 refine region_rule rfl rfl rfl fun k0 hk0 => ?_
 iterate 2 (refine op_rule fun k hk => ?_; simp; rw [hk])
 obtain ⟨r3, h4, hF⟩ := bind_some hF
 have c5 : call 119 [.str p1, .str p2] = some (.int .i64 r3, [.undef, .undef]) := by rw [hcd]; exact F119_ok n (d + 0) p1 p2 r3 h4
 refine op_rule fun k hk => ?_; simp [c5]; rw [hk]
 refine op_rule fun k hk => ?_; simp; rw [hk]
 refine nil_rule ?_
 rw [hk0]
 rw [n2]
 refine ret_rule ?_
 obtain rfl := Option.some.inj hF
 rw [r0]
 simp [Tryz.f77, bytesV_eq, List.map_set]
theorem F76_ok (n d : Nat) {f1 : Bool} (p1 : List UInt8) (p2 : List UInt8) (p3 : List UInt8) (rs : Int) (hF : F76 n p1 p2 p3 = some rs) : callD tab prims n (d + 4) 76 [.agg [.str p1, .sl 1 f1 (p2.map encB)], .str p3] = some (.int .i64 rs, [.undef, .undef]) := by
 obtain ⟨call, hcd⟩ : ∃ call, call = callD tab prims n (d + 3) := ⟨_, rfl⟩
 refine call_rule (d := d + 3) (N76 _) rfl ?_
 rw [← hcd]
 show runBody (envOf tab fi76 call) n Tryz.f76 (codeOf Tryz.f76) [.agg [.str p1, .sl 1 f1 (p2.map encB)], .str p3] = some (.int .i64 rs, [.undef, .undef])
 unfold F76 at hF
 refine body_rule rfl rfl fun L hL K0 n0 r0 => ?_
 refine seq_rule fun K1 n1 e1 r1 => ?_
 refine region_rule rfl rfl rfl fun k0 hk0 => ?_
 iterate 2 (refine op_rule fun k hk => ?_; simp; rw [hk])
 refine nil_rule ?_
 rw [hk0]
 rw [n1]
 refine seq_rule fun K2 n2 e2 r2 => ?_
 refine region_rule rfl rfl rfl fun k0 hk0 => ?_
 iterate 3 (refine op_rule fun k hk => ?_; simp; rw [hk])
 obtain ⟨r3, h4, hF⟩ := bind_some hF
 have c5 : call 77 [.str p1, .str p3] = some (.int .i64 r3, [.undef, .undef]) := by rw [hcd]; exact F77_ok n (d + 0) p1 p3 r3 h4
 refine op_rule fun k hk => ?_; simp [c5]; rw [hk]
 refine op_rule fun k hk => ?_; simp; rw [hk]
 refine nil_rule ?_
 rw [hk0]
 rw [n2]
 refine ret_rule ?_
 obtain rfl := Option.some.inj hF
 rw [r0]
 simp [Tryz.f76, bytesV_eq, List.map_set]
theorem F75_ok (n d : Nat) {f1 : Bool} (p1 : List GFile) (p2 : List UInt8) (rs : Int × Bool) (hF : F75 n p1 p2 = some rs) : callD tab prims n (d + 5) 75 [.sl 2 f1 (p1.map encGFile), .str p2, .fn 76 []] = some (.tup [.int .i64 rs.1, .bool rs.2], [.undef, .undef, .undef]) := by
 obtain ⟨call, hcd⟩ : ∃ call, call = callD tab prims n (d + 4) := ⟨_, rfl⟩
 refine call_rule (d := d + 4) (N75 _) rfl ?_
 rw [← hcd]
 show runBody (envOf tab fi75 call) n Tryz.f75 (codeOf Tryz.f75) [.sl 2 f1 (p1.map encGFile), .str p2, .fn 76 []] = some (.tup [.int .i64 rs.1, .bool rs.2], [.undef, .undef, .undef])
 unfold F75 at hF
 refine body_rule rfl rfl fun L hL K0 n0 r0 => ?_
 refine seq_rule fun K1 n1 e1 r1 => ?_
 refine region_rule rfl rfl rfl fun k0 hk0 => ?_
 iterate 2 (refine op_rule fun k hk => ?_; simp; rw [hk])
 refine nil_rule ?_
 rw [hk0]
 rw [n1]
 refine seq_rule fun K2 n2 e2 r2 => ?_
 refine region_rule rfl rfl rfl fun k0 hk0 => ?_
 iterate 3 (refine op_rule fun k hk => ?_; simp; rw [hk])
 refine nil_rule ?_
 rw [hk0]
 rw [n2]
 refine seq_rule fun K3 n3 e3 r3 => ?_
 refine region_rule rfl rfl rfl fun k0 hk0 => ?_
 iterate 3 (refine op_rule fun k hk => ?_; simp; rw [hk])
 refine nil_rule ?_
 rw [hk0]
 rw [n3]
 refine seq_rule fun K4 n4 e4 r4 => ?_
 refine block_rule fun K5 n5 x5 e5 r5 => ?_
 refine loop_rule ?_
 rw [hL]
 refine loop_F 3 [0, 1, 2, 8, 9, 10] rfl rfl (fun b : Int × Int => [.sl 2 f1 (p1.map encGFile), .str p2, .fn 76 [], .undef, .undef, .undef, .undef, .undef, .int .i64 (p1.length : Int), .int .i64 b.1, .int .i64 b.2, .undef, .undef, .undef, .undef, .undef, .undef, .undef, .undef, .undef, .undef, .undef, .undef, .undef, .undef, .undef, .undef, .undef, .undef, .undef, .undef, .undef, .undef, .undef, .undef, .undef, .undef, .undef, .undef, .undef, .undef, .undef, .undef, .undef, .undef, .undef, .undef, .undef, .undef]) (fun m b => F75_L6 n p1 p2 m b.1 b.2 = some rs) (fun b h => by simp [F75_L6] at h) ?_ n (0, (p1.length : Int)) _ hF (by first | rfl | (simp; done) | (simp [List.map_set, bytesV_eq, encGFile]; done))
 rintro m6 ⟨v7, v8⟩ hF L6 hL6 K'6 hnorm6 hexit6 hret6
 replace hF : F75_L6 n p1 p2 (m6 + 1) v7 v8 = some rs := hF
 rw [F75_L6] at hF
 refine seq_rule fun K11 n11 e11 r11 => ?_
 refine seq_rule fun K12 n12 e12 r12 => ?_
 refine region_keep rfl rfl rfl rfl fun k0 hk0 => ?_
 iterate 3 (refine op_rule fun k hk => ?_; simp; rw [hk])
 refine nil_rule ?_
 rw [hk0]
 rw [n12]
 refine cond_rule rfl (fun hb => ?_) fun hb => ?_
 ·
  have hc35 : (decide (v7 < v8)) = true := by first | exact hb | simpa using hb
  rw [if_pos hc35] at hF
  refine skip_rule ?_
  rw [n11]
  refine block_rule fun K13 n13 x13 e13 r13 => ?_
  refine seq_rule fun K14 n14 e14 r14 => ?_
  refine region_rule rfl rfl rfl fun k0 hk0 => ?_
  iterate 2 (refine op_rule fun k hk => ?_; simp; rw [hk])
  obtain ⟨i15, h16, hF⟩ := bind_some hF
  have h16w : IntKind.i64.wrap (v7 + v8) = i15 := by rw [(rng_some h16).2, (rng_some h16).1]
  refine op_rule fun k hk => ?_; simp [h16w]; rw [hk]
  obtain ⟨_, h17, hF⟩ := bind_some hF
  replace h17 := need_some h17
  refine op_rule fun k hk => ?_; simp [h17]; rw [hk]
  refine op_rule fun k hk => ?_; simp [IntKind.bits]; rw [hk]
  obtain ⟨_, h18, hF⟩ := bind_some hF
  replace h18 := need_some h18
  refine op_rule fun k hk => ?_; simp [h18]; rw [hk]
  refine op_rule fun k hk => ?_; simp; rw [hk]
  refine nil_rule ?_
  rw [hk0]
  rw [n14]
  refine seq_rule fun K19 n19 e19 r19 => ?_
  refine region_rule rfl rfl rfl fun k0 hk0 => ?_
  iterate 3 (refine op_rule fun k hk => ?_; simp; rw [hk])
  obtain ⟨x20, h21, hF⟩ := bind_some hF
  obtain ⟨⟨h21a, h21b⟩, h21c, h21d⟩ := ix_some h21
  have h21r : (p1.map encGFile).getD (i15.fdiv 2).toNat [] = encGFile x20 := by rw [List.getD_eq_getElem?_getD, List.getElem?_map, show p1[(i15.fdiv 2).toNat]? = _ from h21d]; rfl
  refine op_rule fun k hk => ?_; simp [h21a, h21b, ↓h21r, encGFile]; rw [hk]
  refine op_rule fun k hk => ?_; simp [List.range_succ]; rw [hk]
  refine op_rule fun k hk => ?_; simp; rw [hk]
  obtain ⟨r22, h23, hF⟩ := bind_some hF
  have c24 : call 76 [.agg [.str x20.path_, .sl 1 false (x20.text_.map encB)], .str p2] = some (.int .i64 r22, [.undef, .undef]) := by rw [hcd]; exact F76_ok n (d + 0) x20.path_ x20.text_ p2 r22 h23
  refine op_rule fun k hk => ?_; simp [c24]; rw [hk]
  refine op_rule fun k hk => ?_; simp; rw [hk]
  refine nil_rule ?_
  rw [hk0]
  rw [n19]
  refine cond_rule rfl (fun hb => ?_) fun hb => ?_
  ·
   have hc27 : (decide (r22 < 0)) = true := by first | exact hb | simpa using hb
   rw [if_pos hc27] at hF
   refine region_rule rfl rfl rfl fun k0 hk0 => ?_
   refine op_rule fun k hk => ?_; simp; rw [hk]
   obtain ⟨i25, h26, hF⟩ := bind_some hF
   have h26w : IntKind.i64.wrap ((i15.fdiv 2) + 1) = i25 := by rw [(rng_some h26).2, (rng_some h26).1]
   refine op_rule fun k hk => ?_; simp [h26w]; rw [hk]
   refine op_rule fun k hk => ?_; simp; rw [hk]
   refine nil_rule ?_
   rw [hk0]
   rw [n13]
   refine hnorm6 _ (i25, v8) hF ?_
   first | rfl | (simp; done) | (simp [List.map_set, bytesV_eq, encGFile]; done)
  ·
   have hc27 : ¬ (decide (r22 < 0)) = true := by first | (rw [hb]; simp; done) | simpa using hb
   rw [if_neg hc27] at hF
   refine region_rule rfl rfl rfl fun k0 hk0 => ?_
   iterate 2 (refine op_rule fun k hk => ?_; simp; rw [hk])
   refine nil_rule ?_
   rw [hk0]
   rw [n13]
   refine hnorm6 _ (v7, (i15.fdiv 2)) hF ?_
   first | rfl | (simp; done) | (simp [List.map_set, bytesV_eq, encGFile]; done)
 ·
  have hc35 : ¬ (decide (v7 < v8)) = true := by first | (rw [hb]; simp; done) | simpa using hb
  rw [if_neg hc35] at hF
  refine exit_rule ?_
  rw [e11, hexit6, x5, n4]
  refine seq_rule fun K28 n28 e28 r28 => ?_
  refine region_rule rfl rfl rfl fun k0 hk0 => ?_
  iterate 5 (refine op_rule fun k hk => ?_; simp; rw [hk])
  refine op_rule fun k hk => ?_
  refine guard_t rfl rfl rfl rfl (fun hg29r => ?_) fun hg29r => ?_
  ·
   have hg29 : (decide (v7 < (p1.length : Int))) = true := by first | exact hg29r | simpa using hg29r
   rw [if_pos hg29] at hF
   simp [hg29r]
   rw [hk]
   iterate 2 (refine op_rule fun k hk => ?_; simp; rw [hk])
   obtain ⟨x30, h31, hF⟩ := bind_some hF
   obtain ⟨⟨h31a, h31b⟩, h31c, h31d⟩ := ix_some h31
   have h31r : (p1.map encGFile).getD v7.toNat [] = encGFile x30 := by rw [List.getD_eq_getElem?_getD, List.getElem?_map, show p1[v7.toNat]? = _ from h31d]; rfl
   refine op_rule fun k hk => ?_; simp [h31a, h31b, ↓h31r, encGFile]; rw [hk]
   refine op_rule fun k hk => ?_; simp [List.range_succ]; rw [hk]
   refine op_rule fun k hk => ?_; simp; rw [hk]
   obtain ⟨r32, h33, hF⟩ := bind_some hF
   have c34 : call 76 [.agg [.str x30.path_, .sl 1 false (x30.text_.map encB)], .str p2] = some (.int .i64 r32, [.undef, .undef]) := by rw [hcd]; exact F76_ok n (d + 0) x30.path_ x30.text_ p2 r32 h33
   refine op_rule fun k hk => ?_; simp [c34]; rw [hk]
   iterate 4 (refine op_rule fun k hk => ?_; simp; rw [hk])
   refine nil_rule ?_
   rw [hk0]
   rw [n28]
   refine ret_rule ?_
   obtain rfl := Option.some.inj hF
   rw [r0]
   simp [Tryz.f75, bytesV_eq, List.map_set]
  ·
   have hg29 : ¬ (decide (v7 < (p1.length : Int))) = true := by first | (rw [hg29r]; simp; done) | simpa using hg29r
   rw [if_neg hg29] at hF
   simp [hg29r]
   rw [hk]
   iterate 10 (refine op_rule fun k hk => ?_; simp; rw [hk])
   refine nil_rule ?_
   rw [hk0]
   rw [n28]
   refine ret_rule ?_
   obtain rfl := Option.some.inj hF
   rw [r0]
   simp [Tryz.f75, bytesV_eq, List.map_set]
theorem F42_ok (n d : Nat) {f1 : Bool} (p1 : List GFile) (p2 : List UInt8) (rs : Int × Bool) (hF : F42 n p1 p2 = some rs) : callD tab prims n (d + 6) 42 [.sl 2 f1 (p1.map encGFile), .str p2] = some (.tup [.int .i64 rs.1, .bool rs.2], [.undef, .undef]) := by
 obtain ⟨call, hcd⟩ : ∃ call, call = callD tab prims n (d + 5) := ⟨_, rfl⟩
 refine call_rule (d := d + 5) (N42 _) rfl ?_
 rw [← hcd]
 show runBody (envOf tab fi42 call) n Tryz.f42 (codeOf Tryz.f42) [.sl 2 f1 (p1.map encGFile), .str p2] = some (.tup [.int .i64 rs.1, .bool rs.2], [.undef, .undef])
 unfold F42 at hF
 refine body_rule rfl rfl fun L hL K0 n0 r0 => ?_
 refine seq_rule fun K1 n1 e1 r1 => ?_
 refine region_rule rfl rfl rfl fun k0 hk0 => ?_
 iterate 2 (refine op_rule fun k hk => ?_; simp; rw [hk])
 refine nil_rule ?_
 rw [hk0]
 rw [n1]
 refine seq_rule fun K2 n2 e2 r2 => ?_
 refine region_rule rfl rfl rfl fun k0 hk0 => ?_
 iterate 2 (refine op_rule fun k hk => ?_; simp; rw [hk])
 obtain ⟨r3, h4, hF⟩ := bind_some hF
 have c5 : call 75 [.sl 2 f1 (p1.map encGFile), .str p2, .fn 76 []] = some (.tup [.int .i64 r3.1, .bool r3.2], [.undef, .undef, .undef]) := by rw [hcd]; exact F75_ok n (d + 0) p1 p2 r3 h4
 refine op_rule fun k hk => ?_; simp [c5]; rw [hk]
 iterate 4 (refine op_rule fun k hk => ?_; simp; rw [hk])
 refine nil_rule ?_
 rw [hk0]
 rw [n2]
 refine ret_rule ?_
 obtain rfl := Option.some.inj hF
 rw [r0]
 simp [Tryz.f42, bytesV_eq, List.map_set]
theorem F40_ok (n d : Nat) {f1 : Bool} (p1 : List GFile) (p2 : List UInt8) (p3 : List UInt8) (rs : (List GFile)) (hF : F40 n p1 p2 p3 = some rs) : callD tab prims n (d + 7) 40 [.own false 2 (p1.map encGFile), .str p2, .sl 1 f1 (p3.map encB)] = some (.own false 2 (rs.map encGFile), [.undef, .undef, .undef]) := by
 obtain ⟨call, hcd⟩ : ∃ call, call = callD tab prims n (d + 6) := ⟨_, rfl⟩
 refine call_rule (d := d + 6) (N40 _) rfl ?_
 rw [← hcd]
 show runBody (envOf tab fi40 call) n Tryz.f40 (codeOf Tryz.f40) [.own false 2 (p1.map encGFile), .str p2, .sl 1 f1 (p3.map encB)] = some (.own false 2 (rs.map encGFile), [.undef, .undef, .undef])
 unfold F40 at hF
 refine body_rule rfl rfl fun L hL K0 n0 r0 => ?_
 refine seq_rule fun K1 n1 e1 r1 => ?_
 refine region_rule rfl rfl rfl fun k0 hk0 => ?_
 refine op_rule fun k hk => ?_; simp; rw [hk]
 refine nil_rule ?_
 rw [hk0]
 rw [n1]
 refine seq_rule fun K2 n2 e2 r2 => ?_
 refine region_rule rfl rfl rfl fun k0 hk0 => ?_
 iterate 2 (refine op_rule fun k hk => ?_; simp; rw [hk])
 obtain ⟨r3, h4, hF⟩ := bind_some hF
 have c5 : call 42 [.sl 2 false (p1.map encGFile), .str p2] = some (.tup [.int .i64 r3.1, .bool r3.2], [.undef, .undef]) := by rw [hcd]; exact F42_ok n (d + 0) p1 p2 r3 h4
 refine op_rule fun k hk => ?_; simp [c5]; rw [hk]
 iterate 5 (refine op_rule fun k hk => ?_; simp; rw [hk])
 refine nil_rule ?_
 rw [hk0]
 rw [n2]
 refine seq_rule fun K6 n6 e6 r6 => ?_
 refine region_rule rfl rfl rfl fun k0 hk0 => ?_
 iterate 2 (refine op_rule fun k hk => ?_; simp; rw [hk])
 obtain ⟨r7, h8, hF⟩ := bind_some hF
 have c9 : call 43 [.sl 1 f1 (p3.map encB)] = some (.own false 1 (r7.map encB), [.undef]) := by rw [hcd]; exact P43 n (d + 5) p3 r7 h8
 refine op_rule fun k hk => ?_; simp [c9]; rw [hk]
 iterate 3 (refine op_rule fun k hk => ?_; simp; rw [hk])
 refine nil_rule ?_
 rw [hk0]
 rw [n6]
 refine seq_rule fun K10 n10 e10 r10 => ?_
 refine seq_rule fun K11 n11 e11 r11 => ?_
 refine region_rule rfl rfl rfl fun k0 hk0 => ?_
 refine op_rule fun k hk => ?_; simp; rw [hk]
 refine nil_rule ?_
 rw [hk0]
 rw [n11]
 refine cond_rule rfl (fun hb => ?_) fun hb => ?_
 ·
  have hc20 : r3.2 = true := by first | exact hb | simpa using hb
  rw [if_pos hc20] at hF
  refine seq_rule fun K12 n12 e12 r12 => ?_
  refine region_rule rfl rfl rfl fun k0 hk0 => ?_
  iterate 2 (refine op_rule fun k hk => ?_; simp; rw [hk])
  refine op_rule fun k hk => ?_; simp [List.range_succ]; rw [hk]
  obtain ⟨x13, h14, hF⟩ := bind_some hF
  obtain ⟨⟨h14a, h14b⟩, h14c, h14d⟩ := ix_some h14
  have h14r : (p1.map encGFile).getD r3.1.toNat [] = encGFile x13 := by rw [List.getD_eq_getElem?_getD, List.getElem?_map, show p1[r3.1.toNat]? = _ from h14d]; rfl
  refine op_rule fun k hk => ?_; simp [h14a, h14b, ↓h14r]; rw [hk]
  refine op_rule fun k hk => ?_; simp [h14a, h14b, ↓h14r, List.map_set, encGFile]; rw [hk]
  refine nil_rule ?_
  rw [hk0]
  rw [n12]
  refine seq_rule fun K15 n15 e15 r15 => ?_
  refine region_rule rfl rfl rfl fun k0 hk0 => ?_
  iterate 2 (refine op_rule fun k hk => ?_; simp; rw [hk])
  refine nil_rule ?_
  rw [hk0]
  rw [n15]
  refine ret_rule ?_
  obtain rfl := Option.some.inj hF
  rw [r10, r0]
  simp [Tryz.f40, encGFile, bytesV_eq, List.map_set]
 ·
  have hc20 : ¬ r3.2 = true := by first | (rw [hb]; simp; done) | simpa using hb
  rw [if_neg hc20] at hF
  refine skip_rule ?_
  rw [n10]
  refine seq_rule fun K16 n16 e16 r16 => ?_
  refine region_rule rfl rfl rfl fun k0 hk0 => ?_
  iterate 2 (refine op_rule fun k hk => ?_; simp; rw [hk])
  refine op_rule fun k hk => ?_; simp [List.range_succ]; rw [hk]
  refine op_rule fun k hk => ?_; simp [Go.Zv.chunks, List.range_succ]; rw [hk]
  obtain ⟨r17, h18, hF⟩ := bind_some hF
  have c19 : call 74 [.own false 2 (p1.map encGFile), .int .i64 r3.1, .own false 2 (([[.str p2, .sl 1 false (r7.map encB)]] : List (List V)))] = some (.own false 2 (r17.map encGFile), [.undef, .undef, .undef]) := by rw [hcd]; exact P74 n (d + 5) p1 r3.1 ([(⟨p2, r7⟩ : GFile)] : List GFile) r17 h18
  refine op_rule fun k hk => ?_; simp [c19]; rw [hk]
  refine op_rule fun k hk => ?_; simp; rw [hk]
  refine nil_rule ?_
  rw [hk0]
  rw [n16]
  refine ret_rule ?_
  obtain rfl := Option.some.inj hF
  rw [r0]
  simp [Tryz.f40, encGFile, bytesV_eq, List.map_set]
theorem F9_ok (n d : Nat) {f1 : Bool} {f2 : Bool} (p1 : List GFile) (p2 : List UInt8) (p3 : List UInt8) (rs : (List GFile) × Int) (hF : F9 n p1 p2 p3 = some rs) : callD tab prims n (d + 17) 9 [.sl 2 f1 (p1.map encGFile), .str p2, .sl 1 f2 (p3.map encB)] = some (.tup [.own false 2 (rs.1.map encGFile), .int .i64 rs.2], [.undef, .undef, .undef]) := by
 obtain ⟨call, hcd⟩ : ∃ call, call = callD tab prims n (d + 16) := ⟨_, rfl⟩
 refine call_rule (d := d + 16) (N9 _) rfl ?_
 rw [← hcd]
 show runBody (envOf tab fi9 call) n Tryz.f9 (codeOf Tryz.f9) [.sl 2 f1 (p1.map encGFile), .str p2, .sl 1 f2 (p3.map encB)] = some (.tup [.own false 2 (rs.1.map encGFile), .int .i64 rs.2], [.undef, .undef, .undef])
 unfold F9 at hF
 refine body_rule rfl rfl fun L hL K0 n0 r0 => ?_
 refine seq_rule fun K1 n1 e1 r1 => ?_
 refine region_rule rfl rfl rfl fun k0 hk0 => ?_
 iterate 2 (refine op_rule fun k hk => ?_; simp; rw [hk])
 refine nil_rule ?_
 rw [hk0]
 rw [n1]
 refine seq_rule fun K2 n2 e2 r2 => ?_
 refine seq_rule fun K3 n3 e3 r3 => ?_
 refine region_rule rfl rfl rfl fun k0 hk0 => ?_
 refine op_rule fun k hk => ?_; simp; rw [hk]
 obtain ⟨r4, h5, hF⟩ := bind_some hF
 have c6 : call 17 [.sl 2 f1 (p1.map encGFile)] = some (.int .i64 r4, [.undef]) := by rw [hcd]; exact F17_ok n (d + 0) p1 r4 h5
 refine op_rule fun k hk => ?_; simp [c6]; rw [hk]
 refine op_rule fun k hk => ?_; simp; rw [hk]
 refine nil_rule ?_
 rw [hk0]
 rw [n3]
 refine seq_rule fun K7 n7 e7 r7 => ?_
 refine region_rule rfl rfl rfl fun k0 hk0 => ?_
 iterate 2 (refine op_rule fun k hk => ?_; simp; rw [hk])
 refine nil_rule ?_
 rw [hk0]
 rw [n7]
 refine cond_rule rfl (fun hb => ?_) fun hb => ?_
 ·
  have hc36 : (r4 != 0) = true := by first | exact hb | simpa using hb
  rw [if_pos hc36] at hF
  refine seq_rule fun K8 n8 e8 r8 => ?_
  refine region_rule rfl rfl rfl fun k0 hk0 => ?_
  iterate 3 (refine op_rule fun k hk => ?_; simp; rw [hk])
  refine nil_rule ?_
  rw [hk0]
  rw [n8]
  refine ret_rule ?_
  obtain rfl := Option.some.inj hF
  rw [r2, r0]
  simp [Tryz.f9, encGFile, bytesV_eq, List.map_set]
 ·
  have hc36 : ¬ (r4 != 0) = true := by first | (rw [hb]; simp; done) | simpa using hb
  rw [if_neg hc36] at hF
  refine skip_rule ?_
  rw [n2]
  refine seq_rule fun K9 n9 e9 r9 => ?_
  refine seq_rule fun K10 n10 e10 r10 => ?_
  refine region_rule rfl rfl rfl fun k0 hk0 => ?_
  refine op_rule fun k hk => ?_; simp; rw [hk]
  obtain ⟨r11, h12, hF⟩ := bind_some hF
  have c13 : call 38 [.str p2] = some (.bool r11, [.undef]) := by rw [hcd]; exact F38_ok n (d + 1) p2 r11 h12
  refine op_rule fun k hk => ?_; simp [c13]; rw [hk]
  refine op_rule fun k hk => ?_; simp; rw [hk]
  refine nil_rule ?_
  rw [hk0]
  rw [n10]
  refine cond_rule rfl (fun hb => ?_) fun hb => ?_
  ·
   have hc35 : (!r11) = true := by first | exact hb | simpa using hb
   rw [if_pos hc35] at hF
   refine seq_rule fun K14 n14 e14 r14 => ?_
   refine region_rule rfl rfl rfl fun k0 hk0 => ?_
   iterate 2 (refine op_rule fun k hk => ?_; simp; rw [hk])
   refine nil_rule ?_
   rw [hk0]
   rw [n14]
   refine ret_rule ?_
   obtain rfl := Option.some.inj hF
   rw [r9, r0]
   simp [Tryz.f9, encGFile, bytesV_eq, List.map_set]
  ·
   have hc35 : ¬ (!r11) = true := by first | (rw [hb]; simp; done) | simpa using hb
   rw [if_neg hc35] at hF
   refine skip_rule ?_
   rw [n9]
   refine seq_rule fun K15 n15 e15 r15 => ?_
   refine seq_rule fun K16 n16 e16 r16 => ?_
   refine region_rule rfl rfl rfl fun k0 hk0 => ?_
   refine op_rule fun k hk => ?_; simp; rw [hk]
   obtain ⟨r17, h18, hF⟩ := bind_some hF
   have c19 : call 39 [.sl 1 f2 (p3.map encB)] = some (.int .i64 r17, [.undef]) := by rw [hcd]; exact F39_ok n (d + 12) p3 r17 h18
   refine op_rule fun k hk => ?_; simp [c19]; rw [hk]
   refine op_rule fun k hk => ?_; simp; rw [hk]
   refine nil_rule ?_
   rw [hk0]
   rw [n16]
   refine seq_rule fun K20 n20 e20 r20 => ?_
   refine region_rule rfl rfl rfl fun k0 hk0 => ?_
   iterate 2 (refine op_rule fun k hk => ?_; simp; rw [hk])
   refine nil_rule ?_
   rw [hk0]
   rw [n20]
   refine cond_rule rfl (fun hb => ?_) fun hb => ?_
   ·
    have hc34 : (r17 != 0) = true := by first | exact hb | simpa using hb
    rw [if_pos hc34] at hF
    refine seq_rule fun K21 n21 e21 r21 => ?_
    refine region_rule rfl rfl rfl fun k0 hk0 => ?_
    iterate 3 (refine op_rule fun k hk => ?_; simp; rw [hk])
    refine nil_rule ?_
    rw [hk0]
    rw [n21]
    refine ret_rule ?_
    obtain rfl := Option.some.inj hF
    rw [r15, r0]
    simp [Tryz.f9, encGFile, bytesV_eq, List.map_set]
   ·
    have hc34 : ¬ (r17 != 0) = true := by first | (rw [hb]; simp; done) | simpa using hb
    rw [if_neg hc34] at hF
    refine skip_rule ?_
    rw [n15]
    refine seq_rule fun K22 n22 e22 r22 => ?_
    refine region_rule rfl rfl rfl fun k0 hk0 => ?_
    refine op_rule fun k hk => ?_; simp; rw [hk]
    obtain ⟨r23, h24, hF⟩ := bind_some hF
    have c25 : call 41 [.sl 2 f1 (p1.map encGFile)] = some (.own false 2 (r23.map encGFile), [.undef]) := by rw [hcd]; exact F41_ok n (d + 14) p1 r23 h24
    refine op_rule fun k hk => ?_; simp [c25]; rw [hk]
    iterate 2 (refine op_rule fun k hk => ?_; simp; rw [hk])
    obtain ⟨r26, h27, hF⟩ := bind_some hF
    have c28 : call 40 [.own false 2 (r23.map encGFile), .str p2, .sl 1 f2 (p3.map encB)] = some (.own false 2 (r26.map encGFile), [.undef, .undef, .undef]) := by rw [hcd]; exact F40_ok n (d + 9) r23 p2 p3 r26 h27
    refine op_rule fun k hk => ?_; simp [c28]; rw [hk]
    refine op_rule fun k hk => ?_; simp; rw [hk]
    refine nil_rule ?_
    rw [hk0]
    rw [n22]
    refine seq_rule fun K29 n29 e29 r29 => ?_
    refine seq_rule fun K30 n30 e30 r30 => ?_
    refine region_rule rfl rfl rfl fun k0 hk0 => ?_
    iterate 3 (refine op_rule fun k hk => ?_; simp; rw [hk])
    refine nil_rule ?_
    rw [hk0]
    rw [n30]
    refine cond_rule rfl (fun hb => ?_) fun hb => ?_
    ·
     have hc33 : (decide ((r26.length : Int) > 12)) = true := by first | exact hb | simpa using hb
     rw [if_pos hc33] at hF
     refine seq_rule fun K31 n31 e31 r31 => ?_
     refine region_rule rfl rfl rfl fun k0 hk0 => ?_
     iterate 2 (refine op_rule fun k hk => ?_; simp; rw [hk])
     refine nil_rule ?_
     rw [hk0]
     rw [n31]
     refine ret_rule ?_
     obtain rfl := Option.some.inj hF
     rw [r29, r0]
     simp [Tryz.f9, encGFile, bytesV_eq, List.map_set]
    ·
     have hc33 : ¬ (decide ((r26.length : Int) > 12)) = true := by first | (rw [hb]; simp; done) | simpa using hb
     rw [if_neg hc33] at hF
     refine skip_rule ?_
     rw [n29]
     refine seq_rule fun K32 n32 e32 r32 => ?_
     refine region_rule rfl rfl rfl fun k0 hk0 => ?_
     iterate 3 (refine op_rule fun k hk => ?_; simp; rw [hk])
     refine nil_rule ?_
     rw [hk0]
     rw [n32]
     refine ret_rule ?_
     obtain rfl := Option.some.inj hF
     rw [r0]
     simp [Tryz.f9, encGFile, bytesV_eq, List.map_set]
theorem F10_ok (n d : Nat) {f1 : Bool} (p1 : List GFile) (p2 : List UInt8) (rs : (List UInt8) × Bool) (hF : F10 n p1 p2 = some rs) : callD tab prims n (d + 1) 10 [.sl 2 f1 (p1.map encGFile), .str p2] = some (.tup [.sl 1 false (rs.1.map encB), .bool rs.2], [.undef, .undef]) := by
 obtain ⟨call, hcd⟩ : ∃ call, call = callD tab prims n (d + 0) := ⟨_, rfl⟩
 refine call_rule (d := d + 0) (N10 _) rfl ?_
 rw [← hcd]
 show runBody (envOf tab fi10 call) n Tryz.f10 (codeOf Tryz.f10) [.sl 2 f1 (p1.map encGFile), .str p2] = some (.tup [.sl 1 false (rs.1.map encB), .bool rs.2], [.undef, .undef])
 unfold F10 at hF
 refine body_rule rfl rfl fun L hL K0 n0 r0 => ?_
 refine seq_rule fun K1 n1 e1 r1 => ?_
 refine region_rule rfl rfl rfl fun k0 hk0 => ?_
 iterate 2 (refine op_rule fun k hk => ?_; simp; rw [hk])
 refine nil_rule ?_
 rw [hk0]
 rw [n1]
 refine seq_rule fun K2 n2 e2 r2 => ?_
 refine seq_rule fun K3 n3 e3 r3 => ?_
 refine region_rule rfl rfl rfl fun k0 hk0 => ?_
 refine op_rule fun k hk => ?_; simp; rw [hk]
 refine nil_rule ?_
 rw [hk0]
 rw [n3]
 refine block_rule fun K4 n4 x4 e4 r4 => ?_
 refine loop_rule ?_
 rw [hL]
 refine loop_F 2 [0, 1, 6] rfl rfl (fun b : Int => [.sl 2 f1 (p1.map encGFile), .str p2, .undef, .undef, .undef, .undef, .int .i64 b, .undef, .undef, .undef, .undef, .undef, .undef, .undef, .undef, .undef, .undef, .undef, .undef, .undef, .undef, .undef, .undef, .undef, .undef]) (fun m b => F10_L5 p1 p2 m b = some rs) (fun b h => by simp [F10_L5] at h) ?_ n 0 _ hF (by first | rfl | (simp; done) | (simp [List.map_set, bytesV_eq, encGFile]; done))
 rintro m5 v6 hF L5 hL5 K'5 hnorm5 hexit5 hret5
 replace hF : F10_L5 p1 p2 (m5 + 1) v6 = some rs := hF
 rw [F10_L5] at hF
 refine seq_rule fun K8 n8 e8 r8 => ?_
 refine seq_rule fun K9 n9 e9 r9 => ?_
 refine region_keep rfl rfl rfl rfl fun k0 hk0 => ?_
 iterate 4 (refine op_rule fun k hk => ?_; simp; rw [hk])
 refine nil_rule ?_
 rw [hk0]
 rw [n9]
 refine cond_rule rfl (fun hb => ?_) fun hb => ?_
 ·
  have hc20 : (decide (v6 < (p1.length : Int))) = true := by first | exact hb | simpa using hb
  rw [if_pos hc20] at hF
  refine skip_rule ?_
  rw [n8]
  refine seq_rule fun K10 n10 e10 r10 => ?_
  refine block_rule fun K11 n11 x11 e11 r11 => ?_
  refine seq_rule fun K12 n12 e12 r12 => ?_
  refine region_rule rfl rfl rfl fun k0 hk0 => ?_
  iterate 2 (refine op_rule fun k hk => ?_; simp; rw [hk])
  obtain ⟨x13, h14, hF⟩ := bind_some hF
  obtain ⟨⟨h14a, h14b⟩, h14c, h14d⟩ := ix_some h14
  have h14r : (p1.map encGFile).getD v6.toNat [] = encGFile x13 := by rw [List.getD_eq_getElem?_getD, List.getElem?_map, show p1[v6.toNat]? = _ from h14d]; rfl
  refine op_rule fun k hk => ?_; simp [h14a, h14b, ↓h14r, encGFile]; rw [hk]
  iterate 4 (refine op_rule fun k hk => ?_; simp; rw [hk])
  refine nil_rule ?_
  rw [hk0]
  rw [n12]
  refine cond_rule rfl (fun hb => ?_) fun hb => ?_
  ·
   have hc18 : (x13.path_ == p2) = true := by first | exact hb | simpa using hb
   rw [if_pos hc18] at hF
   refine seq_rule fun K15 n15 e15 r15 => ?_
   refine region_rule rfl rfl rfl fun k0 hk0 => ?_
   iterate 2 (refine op_rule fun k hk => ?_; simp; rw [hk])
   refine op_rule fun k hk => ?_; simp [h14a, h14b, ↓h14r, encGFile]; rw [hk]
   iterate 4 (refine op_rule fun k hk => ?_; simp; rw [hk])
   refine nil_rule ?_
   rw [hk0]
   rw [n15]
   refine ret_rule ?_
   obtain rfl := Option.some.inj hF
   rw [r11, r10, hret5, r4, r2, r0]
   simp [Tryz.f10, encB, bytesV_eq, List.map_set]
  ·
   have hc18 : ¬ (x13.path_ == p2) = true := by first | (rw [hb]; simp; done) | simpa using hb
   rw [if_neg hc18] at hF
   refine skip_rule ?_
   rw [n11, n10]
   refine region_rule rfl rfl rfl fun k0 hk0 => ?_
   refine op_rule fun k hk => ?_; simp; rw [hk]
   obtain ⟨i16, h17, hF⟩ := bind_some hF
   have h17w : IntKind.i64.wrap (v6 + 1) = i16 := by rw [(rng_some h17).2, (rng_some h17).1]
   refine op_rule fun k hk => ?_; simp [h17w]; rw [hk]
   refine op_rule fun k hk => ?_; simp; rw [hk]
   refine nil_rule ?_
   rw [hk0]
   refine hnorm5 _ i16 hF ?_
   first | rfl | (simp; done) | (simp [List.map_set, bytesV_eq, encGFile]; done)
 ·
  have hc20 : ¬ (decide (v6 < (p1.length : Int))) = true := by first | (rw [hb]; simp; done) | simpa using hb
  rw [if_neg hc20] at hF
  refine exit_rule ?_
  rw [e8, hexit5, x4, n2]
  refine seq_rule fun K19 n19 e19 r19 => ?_
  refine region_rule rfl rfl rfl fun k0 hk0 => ?_
  iterate 2 (refine op_rule fun k hk => ?_; simp; rw [hk])
  refine nil_rule ?_
  rw [hk0]
  rw [n19]
  refine ret_rule ?_
  obtain rfl := Option.some.inj hF
  rw [r0]
  simp [Tryz.f10, encB, bytesV_eq, List.map_set]
theorem F11_ok (n d : Nat) {f1 : Bool} (p1 : List GFile) (p2 : List UInt8) (rs : (List UInt8) × Int) (hF : F11 n p1 p2 = some rs) : callD tab prims n (d + 17) 11 [.sl 2 f1 (p1.map encGFile), .str p2] = some (.tup [.own false 1 (rs.1.map encB), .int .i64 rs.2], [.undef, .undef]) := by
 obtain ⟨call, hcd⟩ : ∃ call, call = callD tab prims n (d + 16) := ⟨_, rfl⟩
 refine call_rule (d := d + 16) (N11 _) rfl ?_
 rw [← hcd]
 show runBody (envOf tab fi11 call) n Tryz.f11 (codeOf Tryz.f11) [.sl 2 f1 (p1.map encGFile), .str p2] = some (.tup [.own false 1 (rs.1.map encB), .int .i64 rs.2], [.undef, .undef])
 unfold F11 at hF
 refine body_rule rfl rfl fun L hL K0 n0 r0 => ?_
 refine seq_rule fun K1 n1 e1 r1 => ?_
 refine region_rule rfl rfl rfl fun k0 hk0 => ?_
 iterate 2 (refine op_rule fun k hk => ?_; simp; rw [hk])
 refine nil_rule ?_
 rw [hk0]
 rw [n1]
 refine seq_rule fun K2 n2 e2 r2 => ?_
 refine seq_rule fun K3 n3 e3 r3 => ?_
 refine region_rule rfl rfl rfl fun k0 hk0 => ?_
 refine op_rule fun k hk => ?_; simp; rw [hk]
 obtain ⟨r4, h5, hF⟩ := bind_some hF
 have c6 : call 17 [.sl 2 f1 (p1.map encGFile)] = some (.int .i64 r4, [.undef]) := by rw [hcd]; exact F17_ok n (d + 0) p1 r4 h5
 refine op_rule fun k hk => ?_; simp [c6]; rw [hk]
 refine op_rule fun k hk => ?_; simp; rw [hk]
 refine nil_rule ?_
 rw [hk0]
 rw [n3]
 refine seq_rule fun K7 n7 e7 r7 => ?_
 refine region_rule rfl rfl rfl fun k0 hk0 => ?_
 iterate 2 (refine op_rule fun k hk => ?_; simp; rw [hk])
 refine nil_rule ?_
 rw [hk0]
 rw [n7]
 refine cond_rule rfl (fun hb => ?_) fun hb => ?_
 ·
  have hc23 : (r4 != 0) = true := by first | exact hb | simpa using hb
  rw [if_pos hc23] at hF
  refine seq_rule fun K8 n8 e8 r8 => ?_
  refine region_rule rfl rfl rfl fun k0 hk0 => ?_
  iterate 3 (refine op_rule fun k hk => ?_; simp; rw [hk])
  refine nil_rule ?_
  rw [hk0]
  rw [n8]
  refine ret_rule ?_
  obtain rfl := Option.some.inj hF
  rw [r2, r0]
  simp [Tryz.f11, encB, bytesV_eq, List.map_set]
 ·
  have hc23 : ¬ (r4 != 0) = true := by first | (rw [hb]; simp; done) | simpa using hb
  rw [if_neg hc23] at hF
  refine skip_rule ?_
  rw [n2]
  refine seq_rule fun K9 n9 e9 r9 => ?_
  refine region_rule rfl rfl rfl fun k0 hk0 => ?_
  iterate 2 (refine op_rule fun k hk => ?_; simp; rw [hk])
  obtain ⟨r10, h11, hF⟩ := bind_some hF
  have c12 : call 42 [.sl 2 f1 (p1.map encGFile), .str p2] = some (.tup [.int .i64 r10.1, .bool r10.2], [.undef, .undef]) := by rw [hcd]; exact F42_ok n (d + 10) p1 p2 r10 h11
  refine op_rule fun k hk => ?_; simp [c12]; rw [hk]
  iterate 5 (refine op_rule fun k hk => ?_; simp; rw [hk])
  refine nil_rule ?_
  rw [hk0]
  rw [n9]
  refine seq_rule fun K13 n13 e13 r13 => ?_
  refine seq_rule fun K14 n14 e14 r14 => ?_
  refine region_rule rfl rfl rfl fun k0 hk0 => ?_
  iterate 2 (refine op_rule fun k hk => ?_; simp; rw [hk])
  refine nil_rule ?_
  rw [hk0]
  rw [n14]
  refine cond_rule rfl (fun hb => ?_) fun hb => ?_
  ·
   have hc22 : (!r10.2) = true := by first | exact hb | simpa using hb
   rw [if_pos hc22] at hF
   refine seq_rule fun K15 n15 e15 r15 => ?_
   refine region_rule rfl rfl rfl fun k0 hk0 => ?_
   iterate 2 (refine op_rule fun k hk => ?_; simp; rw [hk])
   refine nil_rule ?_
   rw [hk0]
   rw [n15]
   refine ret_rule ?_
   obtain rfl := Option.some.inj hF
   rw [r13, r0]
   simp [Tryz.f11, encB, bytesV_eq, List.map_set]
  ·
   have hc22 : ¬ (!r10.2) = true := by first | (rw [hb]; simp; done) | simpa using hb
   rw [if_neg hc22] at hF
   refine skip_rule ?_
   rw [n13]
   refine seq_rule fun K16 n16 e16 r16 => ?_
   refine region_rule rfl rfl rfl fun k0 hk0 => ?_
   iterate 2 (refine op_rule fun k hk => ?_; simp; rw [hk])
   obtain ⟨x17, h18, hF⟩ := bind_some hF
   obtain ⟨⟨h18a, h18b⟩, h18c, h18d⟩ := ix_some h18
   have h18r : (p1.map encGFile).getD r10.1.toNat [] = encGFile x17 := by rw [List.getD_eq_getElem?_getD, List.getElem?_map, show p1[r10.1.toNat]? = _ from h18d]; rfl
   refine op_rule fun k hk => ?_; simp [h18a, h18b, ↓h18r, encGFile]; rw [hk]
   iterate 2 (refine op_rule fun k hk => ?_; simp; rw [hk])
   obtain ⟨r19, h20, hF⟩ := bind_some hF
   have c21 : call 43 [.sl 1 false (x17.text_.map encB)] = some (.own false 1 (r19.map encB), [.undef]) := by rw [hcd]; exact P43 n (d + 15) x17.text_ r19 h20
   refine op_rule fun k hk => ?_; simp [c21]; rw [hk]
   iterate 2 (refine op_rule fun k hk => ?_; simp; rw [hk])
   refine nil_rule ?_
   rw [hk0]
   rw [n16]
   refine ret_rule ?_
   obtain rfl := Option.some.inj hF
   rw [r0]
   simp [Tryz.f11, encB, bytesV_eq, List.map_set]
theorem F12_ok (n d : Nat) {f1 : Bool} {f2 : Bool} (p1 : List UInt8) (p2 : List UInt8) (rs : Bool) (hF : F12 n p1 p2 = some rs) : callD tab prims n (d + 1) 12 [.sl 1 f1 (p1.map encB), .sl 1 f2 (p2.map encB)] = some (.bool rs, [.undef, .undef]) := by
 obtain ⟨call, hcd⟩ : ∃ call, call = callD tab prims n (d + 0) := ⟨_, rfl⟩
 refine call_rule (d := d + 0) (N12 _) rfl ?_
 rw [← hcd]
 show runBody (envOf tab fi12 call) n Tryz.f12 (codeOf Tryz.f12) [.sl 1 f1 (p1.map encB), .sl 1 f2 (p2.map encB)] = some (.bool rs, [.undef, .undef])
 unfold F12 at hF
 refine body_rule rfl rfl fun L hL K0 n0 r0 => ?_
 refine seq_rule fun K1 n1 e1 r1 => ?_
 refine region_rule rfl rfl rfl fun k0 hk0 => ?_
 refine op_rule fun k hk => ?_; simp; rw [hk]
 refine nil_rule ?_
 rw [hk0]
 rw [n1]
 refine seq_rule fun K2 n2 e2 r2 => ?_
 refine region_rule rfl rfl rfl fun k0 hk0 => ?_
 refine op_rule fun k hk => ?_; simp; rw [hk]
 refine op_rule fun k hk => ?_; simp [asBytes_map]; rw [hk]
 refine op_rule fun k hk => ?_; simp; rw [hk]
 refine op_rule fun k hk => ?_; simp [asBytes_map]; rw [hk]
 iterate 2 (refine op_rule fun k hk => ?_; simp; rw [hk])
 refine nil_rule ?_
 rw [hk0]
 rw [n2]
 refine ret_rule ?_
 obtain rfl := Option.some.inj hF
 rw [r0]
 simp [Tryz.f12, bytesV_eq, List.map_set]
theorem F14_ok (n d : Nat) {f1 : Bool} (p1 : List GFile) (p2 : List UInt8) (rs : (List GFile) × Int) (hF : F14 n p1 p2 = some rs) : callD tab prims n (d + 17) 14 [.sl 2 f1 (p1.map encGFile), .str p2] = some (.tup [.own false 2 (rs.1.map encGFile), .int .i64 rs.2], [.undef, .undef]) := by
 obtain ⟨call, hcd⟩ : ∃ call, call = callD tab prims n (d + 16) := ⟨_, rfl⟩
 refine call_rule (d := d + 16) (N14 _) rfl ?_
 rw [← hcd]
 show runBody (envOf tab fi14 call) n Tryz.f14 (codeOf Tryz.f14) [.sl 2 f1 (p1.map encGFile), .str p2] = some (.tup [.own false 2 (rs.1.map encGFile), .int .i64 rs.2], [.undef, .undef])
 unfold F14 at hF
 refine body_rule rfl rfl fun L hL K0 n0 r0 => ?_
 refine seq_rule fun K1 n1 e1 r1 => ?_
 refine region_rule rfl rfl rfl fun k0 hk0 => ?_
 iterate 2 (refine op_rule fun k hk => ?_; simp; rw [hk])
 refine nil_rule ?_
 rw [hk0]
 rw [n1]
 refine seq_rule fun K2 n2 e2 r2 => ?_
 refine seq_rule fun K3 n3 e3 r3 => ?_
 refine region_rule rfl rfl rfl fun k0 hk0 => ?_
 refine op_rule fun k hk => ?_; simp; rw [hk]
 obtain ⟨r4, h5, hF⟩ := bind_some hF
 have c6 : call 17 [.sl 2 f1 (p1.map encGFile)] = some (.int .i64 r4, [.undef]) := by rw [hcd]; exact F17_ok n (d + 0) p1 r4 h5
 refine op_rule fun k hk => ?_; simp [c6]; rw [hk]
 refine op_rule fun k hk => ?_; simp; rw [hk]
 refine nil_rule ?_
 rw [hk0]
 rw [n3]
 refine seq_rule fun K7 n7 e7 r7 => ?_
 refine region_rule rfl rfl rfl fun k0 hk0 => ?_
 iterate 2 (refine op_rule fun k hk => ?_; simp; rw [hk])
 refine nil_rule ?_
 rw [hk0]
 rw [n7]
 refine cond_rule rfl (fun hb => ?_) fun hb => ?_
 ·
  have hc26 : (r4 != 0) = true := by first | exact hb | simpa using hb
  rw [if_pos hc26] at hF
  refine seq_rule fun K8 n8 e8 r8 => ?_
  refine region_rule rfl rfl rfl fun k0 hk0 => ?_
  iterate 3 (refine op_rule fun k hk => ?_; simp; rw [hk])
  refine nil_rule ?_
  rw [hk0]
  rw [n8]
  refine ret_rule ?_
  obtain rfl := Option.some.inj hF
  rw [r2, r0]
  simp [Tryz.f14, encGFile, bytesV_eq, List.map_set]
 ·
  have hc26 : ¬ (r4 != 0) = true := by first | (rw [hb]; simp; done) | simpa using hb
  rw [if_neg hc26] at hF
  refine skip_rule ?_
  rw [n2]
  refine seq_rule fun K9 n9 e9 r9 => ?_
  refine region_rule rfl rfl rfl fun k0 hk0 => ?_
  iterate 2 (refine op_rule fun k hk => ?_; simp; rw [hk])
  obtain ⟨r10, h11, hF⟩ := bind_some hF
  have c12 : call 42 [.sl 2 f1 (p1.map encGFile), .str p2] = some (.tup [.int .i64 r10.1, .bool r10.2], [.undef, .undef]) := by rw [hcd]; exact F42_ok n (d + 10) p1 p2 r10 h11
  refine op_rule fun k hk => ?_; simp [c12]; rw [hk]
  iterate 5 (refine op_rule fun k hk => ?_; simp; rw [hk])
  refine nil_rule ?_
  rw [hk0]
  rw [n9]
  refine seq_rule fun K13 n13 e13 r13 => ?_
  refine seq_rule fun K14 n14 e14 r14 => ?_
  refine region_rule rfl rfl rfl fun k0 hk0 => ?_
  iterate 2 (refine op_rule fun k hk => ?_; simp; rw [hk])
  refine nil_rule ?_
  rw [hk0]
  rw [n14]
  refine cond_rule rfl (fun hb => ?_) fun hb => ?_
  ·
   have hc25 : (!r10.2) = true := by first | exact hb | simpa using hb
   rw [if_pos hc25] at hF
   refine seq_rule fun K15 n15 e15 r15 => ?_
   refine region_rule rfl rfl rfl fun k0 hk0 => ?_
   iterate 2 (refine op_rule fun k hk => ?_; simp; rw [hk])
   refine nil_rule ?_
   rw [hk0]
   rw [n15]
   refine ret_rule ?_
   obtain rfl := Option.some.inj hF
   rw [r13, r0]
   simp [Tryz.f14, encGFile, bytesV_eq, List.map_set]
  ·
   have hc25 : ¬ (!r10.2) = true := by first | (rw [hb]; simp; done) | simpa using hb
   rw [if_neg hc25] at hF
   refine skip_rule ?_
   rw [n13]
   refine seq_rule fun K16 n16 e16 r16 => ?_
   refine region_rule rfl rfl rfl fun k0 hk0 => ?_
   refine op_rule fun k hk => ?_; simp; rw [hk]
   obtain ⟨r17, h18, hF⟩ := bind_some hF
   have c19 : call 41 [.sl 2 f1 (p1.map encGFile)] = some (.own false 2 (r17.map encGFile), [.undef]) := by rw [hcd]; exact F41_ok n (d + 14) p1 r17 h18
   refine op_rule fun k hk => ?_; simp [c19]; rw [hk]
   iterate 2 (refine op_rule fun k hk => ?_; simp; rw [hk])
   obtain ⟨i20, h21, hF⟩ := bind_some hF
   have h21w : IntKind.i64.wrap (r10.1 + 1) = i20 := by rw [(rng_some h21).2, (rng_some h21).1]
   refine op_rule fun k hk => ?_; simp [h21w]; rw [hk]
   obtain ⟨r22, h23, hF⟩ := bind_some hF
   have c24 : call 46 [.own false 2 (r17.map encGFile), .int .i64 r10.1, .int .i64 i20] = some (.own false 2 (r22.map encGFile), [.undef, .undef, .undef]) := by rw [hcd]; exact P46 n (d + 15) r17 r10.1 i20 r22 h23
   refine op_rule fun k hk => ?_; simp [c24]; rw [hk]
   iterate 2 (refine op_rule fun k hk => ?_; simp; rw [hk])
   refine nil_rule ?_
   rw [hk0]
   rw [n16]
   refine ret_rule ?_
   obtain rfl := Option.some.inj hF
   rw [r0]
   simp [Tryz.f14, encGFile, bytesV_eq, List.map_set]
end Go.Proofs.YtdddbifjkkhpbaaGreatDoor.G
