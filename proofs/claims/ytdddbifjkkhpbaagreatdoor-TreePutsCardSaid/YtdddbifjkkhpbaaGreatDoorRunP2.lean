/- Functions of the program, run on plain values: what their plain functions say comes of them. No condition. -/
import Derived.Test.YtdddbifjkkhpbaaGreatDoorPrimsP
import Derived.Test.YtdddbifjkkhpbaaGreatDoorRunP1
namespace Go.Proofs.YtdddbifjkkhpbaaGreatDoor.G
open Go Go.Zv Go.Proofs Go.Proofs.YtdddbifjkkhpbaaGreatDoor
set_option maxRecDepth 100000
set_option maxHeartbeats 0
set_option linter.unusedSimpArgs false
set_option linter.unusedVariables false
attribute [local simp ↓] Go.Zv.into_gv Go.Zv.stale_gv Go.Zv.refAt_gv Go.Zv.rootIn_gv Go.Zv.hits_gv Go.Zv.dropRoot_nil Go.Zv.dropRoot_cons Go.Zv.drop_nil Go.Zv.drop_cons Go.Zv.dropRef_nil Go.Zv.dropRef_cons Go.Zv.runOps Go.Zv.gstep Go.Zv.evOpF cond_eq_ite Go.Zv.ev_assign Go.Zv.ev_move Go.Zv.ev_binOp Go.Zv.ev_pick Go.Zv.ev_call Go.Zv.ev_extract Go.Zv.ev_load Go.Zv.ev_fieldAddr Go.Zv.ev_indexAddr Go.Zv.ev_convert Go.Zv.ev_unOp Go.Zv.ev_slice Go.Zv.ev_index Go.Zv.ev_box Go.Zv.ev_build Go.Zv.ev_buildSlice Go.Zv.ev_makeSlice Go.Zv.ev_store Go.Zv.ev_alloc Go.Zv.ev_makeFunc Go.Zv.ev_field Go.Zv.ev_nilCheck Go.Zv.evBuiltin Go.Zv.appendSrc Go.Zv.appendTo Go.Zv.slen Go.Zv.load Go.Zv.coerce Go.Zv.evBin Go.Zv.evCall Go.Zv.evArgs Go.Zv.resAll Go.Zv.resOne Go.Zv.evConvert Go.Zv.evSlice Go.Zv.cutAt Go.Zv.bnd Go.Zv.share Go.Zv.reads Go.Zv.place Go.Zv.readArgs Go.Zv.readArg Go.Zv.loadCell Go.Zv.cellVal Go.Zv.storeOne Go.Zv.store Go.Zv.fillCells Go.Zv.partCells Go.Zv.copyTo Go.Zv.evCaps
attribute [local simp] Go.Zv.flag Go.Zv.tupOf Go.Zv.opnd Go.Zv.gt Go.Zv.put Go.Zv.setT Go.Zv.into Go.Zv.into1 Go.Zv.nilTo Go.Zv.ofConst Go.Zv.ofScalar Go.Zv.kindOf Go.Zv.idxOf Go.Zv.asInt Go.Zv.asBool Go.Zv.asStr Go.Zv.asSl Go.Zv.simple Go.Zv.linkFree Go.Zv.pack Go.Zv.maskOuts Go.Zv.cut Go.Zv.TK.isAgg Go.Zv.keepOnly Go.Zv.keepGo Go.Zv.mask Go.Zv.rootIn Go.Zv.rootIn1 Go.Zv.nbeq ecall efixed enests eshares ekeep eplan eu8 eflat etakes eturns Go.Zv.callArgs Go.Zv.argV Go.Zv.lent Go.Zv.distinct Go.Zv.heldIn Go.Zv.lend Go.Zv.restore Go.Zv.resOk Go.Zv.flatV Go.Zv.flat2 Go.Zv.flat1 Go.Zv.goodCells Go.Zv.boxed Go.Zv.bump Go.Zv.getP Go.Zv.cellAt Go.Zv.setP Go.Zv.setCellV Go.Zv.setRange Go.Zv.stripAll Go.Zv.V.strip Go.Zv.froz Go.Zv.hasOwn Go.Zv.shareCells Go.Zv.setPlace Go.Zv.stored Go.Zv.stale Go.Zv.stale1 Go.Zv.refAt Go.Zv.refAt1 Go.Zv.isSliceB Go.Zv.deepAt Go.Zv.isIptr Go.Zv.canon Go.Zv.canon1 Go.Zv.over Go.Zv.overGo Go.Zv.hits Go.Zv.hits1 Go.Zv.plainV Go.Zv.putB Go.Zv.isRefV Go.Zv.asOwn gv_true gv_false wrapL wrapLu8 wrapLu64 wrapLi32 wrapLu32
attribute [local simp] ety3 ety4 ety5 ety9 ety22 ety23 ety26 ety38 ety42 ety46 ety48 ety50 ety52 ety73 ety82 ety88 ety126 ety168 ety170 ety174 ety178 ety184 ety210 ti3 ti4 ti5 ti9 ti22 ti23 ti26 ti38 ti42 ti46 ti48 ti50 ti52 ti73 ti82 ti88 ti126 ti168 ti170 ti174 ti178 ti184 ti210 eu8_23 etk3 etn3 efl3 etk7 etn7 efl7 etk8 etn8 efl8 etk9 etn9 efl9 etk10 etn10 efl10 etk11 etn11 efl11 etk12 etn12 efl12 etk13 etn13 efl13 etk14 etn14 efl14 etk15 etn15 efl15 etk16 etn16 efl16 etk17 etn17 efl17 etk18 etn18 efl18 etk23 etn23 efl23 etk31 etn31 efl31 etk37 etn37 efl37 etk38 etn38 efl38 etk39 etn39 efl39 etk40 etn40 efl40 etk41 etn41 efl41 etk42 etn42 efl42 etk43 etn43 efl43 etk44 etn44 efl44 etk45 etn45 efl45 etk46 etn46 efl46 etk47 etn47 efl47 etk48 etn48 efl48 etk51 etn51 efl51 etk52 etn52 efl52 etk53 etn53 efl53 etk54 etn54 efl54 etk66 etn66 efl66 etk73 etn73 efl73 etk74 etn74 efl74 etk75 etn75 efl75 etk76 etn76 efl76 etk77 etn77 efl77 etk78 etn78 efl78 etk79 etn79 efl79 etk80 etn80 efl80 etk81 etn81 efl81 etk82 etn82 efl82 etk85 etn85 efl85 etk87 etn87 efl87 etk88 etn88 efl88 etk106 etn106 efl106 etk114 etn114 efl114 etk115 etn115 efl115 etk116 etn116 efl116 etk119 etn119 efl119 etk120 etn120 efl120 etk121 etn121 efl121 etk122 etn122 efl122 etk127 etn127 efl127 etk128 etn128 efl128 etk129 etn129 efl129 etk130 etn130 efl130 etk154 etn154 efl154 etk155 etn155 efl155 etk156 etn156 efl156 etk157 etn157 efl157 etk158 etn158 efl158 etk159 etn159 efl159 etk161 etn161 efl161 etk162 etn162 efl162 etk197 etn197 efl197 etk198 etn198 efl198 etk199 etn199 efl199 etk200 etn200 efl200 etk202 etn202 efl202 etk220 etn220 efl220 etk221 etn221 efl221 etk222 etn222 efl222 etk234 etn234 efl234 fi3 fi7 fi8 fi9 fi10 fi11 fi12 fi13 fi14 fi15 fi16 fi17 fi18 fi23 fi31 fi37 fi38 fi39 fi40 fi41 fi42 fi44 fi45 fi47 fi48 fi51 fi52 fi53 fi54 fi66 fi73 fi75 fi76 fi77 fi78 fi79 fi80 fi81 fi82 fi85 fi87 fi88 fi106 fi114 fi116 fi119 fi120 fi121 fi122 fi127 fi128 fi129 fi155 fi156 fi157 fi158 fi159 fi161 fi162 fi197 fi198 fi199 fi200 fi202 fi221 fi222
attribute [-simp] List.map_set List.map_map
theorem F155_ok (n d : Nat) (p1 : List UInt8) (p2 : List UInt8) (p3 : Int) (p4 : Int) (rs : (List (List UInt8))) (hF : F155 n p1 p2 p3 p4 = some rs) : callD tab prims n (d + 6) 155 [.str p1, .str p2, .int .i64 p3, .int .i64 p4] = some (.sl 1 false (rs.map encS), [.undef, .undef, .undef, .undef]) := by
 obtain ⟨call, hcd⟩ : ∃ call, call = callD tab prims n (d + 5) := ⟨_, rfl⟩
 refine call_rule (d := d + 5) (N155 _) rfl ?_
 rw [← hcd]
 show runBody (envOf tab fi155 call) n Tryz.f155 (codeOf Tryz.f155) [.str p1, .str p2, .int .i64 p3, .int .i64 p4] = some (.sl 1 false (rs.map encS), [.undef, .undef, .undef, .undef])
 unfold F155 at hF
 refine body_rule rfl rfl fun L hL K0 n0 r0 => ?_
 refine seq_rule fun K1 n1 e1 r1 => ?_
 refine region_rule rfl rfl rfl fun k0 hk0 => ?_
 refine op_rule fun k hk => ?_; simp; rw [hk]
 refine nil_rule ?_
 rw [hk0]
 rw [n1]
 refine seq_rule fun K2 n2 e2 r2 => ?_
 refine seq_rule fun K3 n3 e3 r3 => ?_
 refine region_rule rfl rfl rfl fun k0 hk0 => ?_
 iterate 2 (refine op_rule fun k hk => ?_; simp; rw [hk])
 refine nil_rule ?_
 rw [hk0]
 rw [n3]
 refine cond_rule rfl (fun hb => ?_) fun hb => ?_
 ·
  have hc75 : (p4 == 0) = true := by first | exact hb | simpa using hb
  rw [if_pos hc75] at hF
  refine seq_rule fun K4 n4 e4 r4 => ?_
  refine region_rule rfl rfl rfl fun k0 hk0 => ?_
  refine op_rule fun k hk => ?_; simp; rw [hk]
  refine nil_rule ?_
  rw [hk0]
  rw [n4]
  refine ret_rule ?_
  obtain rfl := Option.some.inj hF
  rw [r2, r0]
  simp [Tryz.f155, encS, bytesV_eq, List.map_set]
 ·
  have hc75 : ¬ (p4 == 0) = true := by first | (rw [hb]; simp; done) | simpa using hb
  rw [if_neg hc75] at hF
  refine skip_rule ?_
  rw [n2]
  refine seq_rule fun K5 n5 e5 r5 => ?_
  refine seq_rule fun K6 n6 e6 r6 => ?_
  refine region_rule rfl rfl rfl fun k0 hk0 => ?_
  iterate 2 (refine op_rule fun k hk => ?_; simp; rw [hk])
  refine nil_rule ?_
  rw [hk0]
  rw [n6]
  refine cond_rule rfl (fun hb => ?_) fun hb => ?_
  ·
   have hc74 : (p2 == ([] : List UInt8)) = true := by first | exact hb | simpa using hb
   rw [if_pos hc74] at hF
   refine seq_rule fun K7 n7 e7 r7 => ?_
   refine region_rule rfl rfl rfl fun k0 hk0 => ?_
   iterate 2 (refine op_rule fun k hk => ?_; simp; rw [hk])
   cases hF
  ·
   have hc74 : ¬ (p2 == ([] : List UInt8)) = true := by first | (rw [hb]; simp; done) | simpa using hb
   rw [if_neg hc74] at hF
   refine skip_rule ?_
   rw [n5]
   refine seq_rule fun K8 n8 e8 r8 => ?_
   have hJ8 : ∀ (v9 : Int), F155_J8 n p1 p2 p3 v9 = some rs → ∀ σ' : List V, keepOnly [0, 1, 2, 3] σ' = [.str p1, .str p2, .int .i64 p3, .int .i64 v9, .undef, .undef, .undef, .undef, .undef, .undef, .undef, .undef, .undef, .undef, .undef, .undef, .undef, .undef, .undef, .undef, .undef, .undef, .undef, .undef, .undef, .undef, .undef, .undef, .undef, .undef, .undef, .undef, .undef, .undef, .undef, .undef, .undef, .undef, .undef, .undef, .undef, .undef, .undef, .undef, .undef, .undef, .undef, .undef, .undef, .undef, .undef, .undef, .undef, .undef, .undef, .undef, .undef, .undef, .undef, .undef, .undef, .undef, .undef, .undef, .undef, .undef] → K8 .normal σ' = some ((.sl 1 false (rs.map encS), [.undef, .undef, .undef, .undef])) := by
    intro v9 hF σ' hσ
    rw [n8]
    refine join_rule 7 [0, 1, 2, 3] rfl rfl hσ ?_
    unfold F155_J8 at hF
    refine seq_rule fun K10 n10 e10 r10 => ?_
    refine region_keep rfl rfl rfl rfl fun k0 hk0 => ?_
    iterate 3 (refine op_rule fun k hk => ?_; simp; rw [hk])
    obtain ⟨i11, h12, hF⟩ := bind_some hF
    have h12w : IntKind.i64.wrap ((p1.length : Int) + 1) = i11 := by rw [(rng_some h12).2, (rng_some h12).1]
    refine op_rule fun k hk => ?_; simp [h12w]; rw [hk]
    refine op_rule fun k hk => ?_; simp [Go.Zv.minmax]; rw [hk]
    refine op_rule fun k hk => ?_; simp; rw [hk]
    refine nil_rule ?_
    rw [hk0]
    rw [n10]
    refine seq_rule fun K13 n13 e13 r13 => ?_
    refine region_rule rfl rfl rfl fun k0 hk0 => ?_
    refine op_rule fun k hk => ?_; simp; rw [hk]
    obtain ⟨_, h14, hF⟩ := bind_some hF
    replace h14 := need_some h14
    refine op_rule fun k hk => ?_; simp [h14]; rw [hk]
    refine op_rule fun k hk => ?_; simp; rw [hk]
    refine nil_rule ?_
    rw [hk0]
    rw [n13]
    refine seq_rule fun K15 n15 e15 r15 => ?_
    refine region_rule rfl rfl rfl fun k0 hk0 => ?_
    refine op_rule fun k hk => ?_; simp; rw [hk]
    obtain ⟨i16, h17, hF⟩ := bind_some hF
    have h17w : IntKind.i64.wrap ((if i11 < v9 then i11 else v9) - 1) = i16 := by rw [(rng_some h17).2, (rng_some h17).1]
    refine op_rule fun k hk => ?_; simp [h17w]; rw [hk]
    refine op_rule fun k hk => ?_; simp; rw [hk]
    refine nil_rule ?_
    rw [hk0]
    rw [n15]
    refine seq_rule fun K18 n18 e18 r18 => ?_
    refine region_rule rfl rfl rfl fun k0 hk0 => ?_
    refine op_rule fun k hk => ?_; simp; rw [hk]
    refine nil_rule ?_
    rw [hk0]
    rw [n18]
    refine seq_rule fun K19 n19 e19 r19 => ?_
    have hJ19 : ∀ (v20 : List UInt8) (v21 : List (List UInt8)) (v22 : Int), F155_J19 v20 v21 v22 = some rs → ∀ σ' : List V, keepOnly [0, 9, 10] σ' = [.str v20, .undef, .undef, .undef, .undef, .undef, .undef, .undef, .undef, .own false 1 (v21.map encS), .int .i64 v22, .undef, .undef, .undef, .undef, .undef, .undef, .undef, .undef, .undef, .undef, .undef, .undef, .undef, .undef, .undef, .undef, .undef, .undef, .undef, .undef, .undef, .undef, .undef, .undef, .undef, .undef, .undef, .undef, .undef, .undef, .undef, .undef, .undef, .undef, .undef, .undef, .undef, .undef, .undef, .undef, .undef, .undef, .undef, .undef, .undef, .undef, .undef, .undef, .undef, .undef, .undef, .undef, .undef, .undef, .undef] → K19 .normal σ' = some ((.sl 1 false (rs.map encS), [.undef, .undef, .undef, .undef])) := by
     intro v20 v21 v22 hF σ' hσ
     rw [n19]
     refine join_rule 17 [0, 9, 10] rfl rfl hσ ?_
     unfold F155_J19 at hF
     refine seq_rule fun K23 n23 e23 r23 => ?_
     refine region_keep rfl rfl rfl rfl fun k0 hk0 => ?_
     iterate 3 (refine op_rule fun k hk => ?_; simp; rw [hk])
     obtain ⟨x24, h25, hF⟩ := bind_some hF
     obtain ⟨⟨h25a, h25b⟩, h25c, h25d⟩ := ix_some h25
     have h25r : (v21.map encS).getD v22.toNat [] = encS x24 := by rw [List.getD_eq_getElem?_getD, List.getElem?_map, show v21[v22.toNat]? = _ from h25d]; rfl
     refine op_rule fun k hk => ?_; simp [h25a, h25b, ↓h25r]; rw [hk]
     refine op_rule fun k hk => ?_; simp [h25a, h25b, ↓h25r, List.map_set, encS]; rw [hk]
     refine nil_rule ?_
     rw [hk0]
     rw [n23]
     refine seq_rule fun K26 n26 e26 r26 => ?_
     refine region_rule rfl rfl rfl fun k0 hk0 => ?_
     iterate 2 (refine op_rule fun k hk => ?_; simp; rw [hk])
     obtain ⟨i27, h28, hF⟩ := bind_some hF
     have h28w : IntKind.i64.wrap (v22 + 1) = i27 := by rw [(rng_some h28).2, (rng_some h28).1]
     refine op_rule fun k hk => ?_; simp [h28w]; rw [hk]
     obtain ⟨l29, h30, hF⟩ := bind_some hF
     obtain ⟨h30a, h30b, h30c, h30d, h30e⟩ := cutI_some h30
     try simp at h30d
     have h30v0 : ((v21.map encS).set v22.toNat [.str v20]).take i27.toNat = l29.map encS := by rw [h30e] <;> first | (simp [List.map_take, List.map_drop]; done) | (rw [List.take_of_length_le (l := ((v21.map encS).set v22.toNat [.str v20])) (by simp)]; simp [List.map_take, List.map_drop] ; done) | (simp [List.map_take, List.map_drop, List.map_set, encS])
     refine op_rule fun k hk => ?_; simp [h30b, h30c, h30d, h30v0]; rw [hk]
     refine op_rule fun k hk => ?_; simp; rw [hk]
     refine nil_rule ?_
     rw [hk0]
     rw [n26]
     refine ret_rule ?_
     obtain rfl := Option.some.inj hF
     rw [r0]
     simp [Tryz.f155, encS, bytesV_eq, List.map_set]
    refine block_rule fun K31 n31 x31 e31 r31 => ?_
    refine loop_rule ?_
    rw [hL]
    refine loop_F 11 [0, 1, 2, 3, 9, 10] rfl rfl (fun b : (List UInt8) × (List (List UInt8)) × Int => [.str b.1, .str p2, .int .i64 p3, .int .i64 i16, .undef, .undef, .undef, .undef, .undef, .own false 1 (b.2.1.map encS), .int .i64 b.2.2, .undef, .undef, .undef, .undef, .undef, .undef, .undef, .undef, .undef, .undef, .undef, .undef, .undef, .undef, .undef, .undef, .undef, .undef, .undef, .undef, .undef, .undef, .undef, .undef, .undef, .undef, .undef, .undef, .undef, .undef, .undef, .undef, .undef, .undef, .undef, .undef, .undef, .undef, .undef, .undef, .undef, .undef, .undef, .undef, .undef, .undef, .undef, .undef, .undef, .undef, .undef, .undef, .undef, .undef, .undef]) (fun m b => F155_L32 n p2 p3 i16 m b.1 b.2.1 b.2.2 = some rs) (fun b h => by simp [F155_L32] at h) ?_ n (p1, (List.replicate (if i11 < v9 then i11 else v9).toNat ([] : List UInt8)), 0) _ hF (by first | rfl | (simp; done) | (simp [List.map_set, bytesV_eq, encS]; done))
    rintro m32 ⟨v33, v34, v35⟩ hF L32 hL32 K'32 hnorm32 hexit32 hret32
    replace hF : F155_L32 n p2 p3 i16 (m32 + 1) v33 v34 v35 = some rs := hF
    rw [F155_L32] at hF
    refine seq_rule fun K39 n39 e39 r39 => ?_
    refine seq_rule fun K40 n40 e40 r40 => ?_
    refine region_keep rfl rfl rfl rfl fun k0 hk0 => ?_
    iterate 3 (refine op_rule fun k hk => ?_; simp; rw [hk])
    refine nil_rule ?_
    rw [hk0]
    rw [n40]
    refine cond_rule rfl (fun hb => ?_) fun hb => ?_
    ·
     have hc63 : (decide (v35 < i16)) = true := by first | exact hb | simpa using hb
     rw [if_pos hc63] at hF
     refine skip_rule ?_
     rw [n39]
     refine block_rule fun K41 n41 x41 e41 r41 => ?_
     refine seq_rule fun K42 n42 e42 r42 => ?_
     refine region_rule rfl rfl rfl fun k0 hk0 => ?_
     iterate 2 (refine op_rule fun k hk => ?_; simp; rw [hk])
     obtain ⟨r43, h44, hF⟩ := bind_some hF
     have c45 : call 198 [.str v33, .str p2] = some (.int .i64 r43, [.undef, .undef]) := by rw [hcd]; exact F198_ok n (d + 1) v33 p2 r43 h44
     refine op_rule fun k hk => ?_; simp [c45]; rw [hk]
     refine op_rule fun k hk => ?_; simp; rw [hk]
     refine nil_rule ?_
     rw [hk0]
     rw [n42]
     refine seq_rule fun K46 n46 e46 r46 => ?_
     refine seq_rule fun K47 n47 e47 r47 => ?_
     refine region_rule rfl rfl rfl fun k0 hk0 => ?_
     iterate 2 (refine op_rule fun k hk => ?_; simp; rw [hk])
     refine nil_rule ?_
     rw [hk0]
     rw [n47]
     refine cond_rule rfl (fun hb => ?_) fun hb => ?_
     ·
      have hc62 : (decide (r43 < 0)) = true := by first | exact hb | simpa using hb
      rw [if_pos hc62] at hF
      refine exit_rule ?_
      rw [e46, e41 _ _ (by decide), hexit32, x31]
      refine hJ19 v33 v34 v35 hF _ ?_
      first | rfl | (simp; done) | (simp [List.map_set, bytesV_eq, encS]; done)
     ·
      have hc62 : ¬ (decide (r43 < 0)) = true := by first | (rw [hb]; simp; done) | simpa using hb
      rw [if_neg hc62] at hF
      refine skip_rule ?_
      rw [n46]
      refine seq_rule fun K48 n48 e48 r48 => ?_
      refine region_rule rfl rfl rfl fun k0 hk0 => ?_
      iterate 5 (refine op_rule fun k hk => ?_; simp; rw [hk])
      obtain ⟨i49, h50, hF⟩ := bind_some hF
      have h50w : IntKind.i64.wrap (r43 + p3) = i49 := by rw [(rng_some h50).2, (rng_some h50).1]
      refine op_rule fun k hk => ?_; simp [h50w]; rw [hk]
      obtain ⟨l51, h52, hF⟩ := bind_some hF
      obtain ⟨h52a, h52b, h52c, h52d, h52e⟩ := cutI_some h52
      have h52v0 : v33.take i49.toNat = l51 := by rw [h52e] <;> first | (simp [List.map_take, List.map_drop]; done) | (rw [List.take_of_length_le (l := v33) (by simp)]; simp [List.map_take, List.map_drop])
      refine op_rule fun k hk => ?_; simp [h52b, h52c, h52d, h52v0]; rw [hk]
      obtain ⟨x53, h54, hF⟩ := bind_some hF
      obtain ⟨⟨h54a, h54b⟩, h54c, h54d⟩ := ix_some h54
      have h54r : (v34.map encS).getD v35.toNat [] = encS x53 := by rw [List.getD_eq_getElem?_getD, List.getElem?_map, show v34[v35.toNat]? = _ from h54d]; rfl
      refine op_rule fun k hk => ?_; simp [h54a, h54b, ↓h54r]; rw [hk]
      refine op_rule fun k hk => ?_; simp [h54a, h54b, ↓h54r, List.map_set, encS]; rw [hk]
      refine nil_rule ?_
      rw [hk0]
      rw [n48]
      refine seq_rule fun K55 n55 e55 r55 => ?_
      refine region_rule rfl rfl rfl fun k0 hk0 => ?_
      iterate 4 (refine op_rule fun k hk => ?_; simp; rw [hk])
      obtain ⟨i56, h57, hF⟩ := bind_some hF
      have h57w : IntKind.i64.wrap (r43 + (p2.length : Int)) = i56 := by rw [(rng_some h57).2, (rng_some h57).1]
      refine op_rule fun k hk => ?_; simp [h57w]; rw [hk]
      obtain ⟨l58, h59, hF⟩ := bind_some hF
      obtain ⟨h59a, h59b, h59c, h59d, h59e⟩ := cutI_some h59
      have h59v0 : v33.drop i56.toNat = l58 := by rw [h59e] <;> first | (simp [List.map_take, List.map_drop]; done) | (rw [List.take_of_length_le (l := v33) (by simp)]; simp [List.map_take, List.map_drop])
      have h59v1 : (v33.take v33.length).drop i56.toNat = l58 := by rw [h59e] <;> first | (simp [List.map_take, List.map_drop]; done) | (rw [List.take_of_length_le (l := v33) (by simp)]; simp [List.map_take, List.map_drop])
      refine op_rule fun k hk => ?_; simp [h59a, h59b, h59c, h59d, h59v0, h59v1]; rw [hk]
      refine op_rule fun k hk => ?_; simp; rw [hk]
      refine nil_rule ?_
      rw [hk0]
      rw [n55]
      refine region_rule rfl rfl rfl fun k0 hk0 => ?_
      refine op_rule fun k hk => ?_; simp; rw [hk]
      obtain ⟨i60, h61, hF⟩ := bind_some hF
      have h61w : IntKind.i64.wrap (v35 + 1) = i60 := by rw [(rng_some h61).2, (rng_some h61).1]
      refine op_rule fun k hk => ?_; simp [h61w]; rw [hk]
      refine op_rule fun k hk => ?_; simp; rw [hk]
      refine nil_rule ?_
      rw [hk0]
      rw [n41]
      refine hnorm32 _ (l58, (v34.set v35.toNat l51), i60) hF ?_
      first | rfl | (simp; done) | (simp [List.map_set, bytesV_eq, encS]; done)
    ·
     have hc63 : ¬ (decide (v35 < i16)) = true := by first | (rw [hb]; simp; done) | simpa using hb
     rw [if_neg hc63] at hF
     refine exit_rule ?_
     rw [e39, hexit32, x31]
     refine hJ19 v33 v34 v35 hF _ ?_
     first | rfl | (simp; done) | (simp [List.map_set, bytesV_eq, encS]; done)
   refine seq_rule fun K67 n67 e67 r67 => ?_
   refine region_rule rfl rfl rfl fun k0 hk0 => ?_
   iterate 2 (refine op_rule fun k hk => ?_; simp; rw [hk])
   refine nil_rule ?_
   rw [hk0]
   rw [n67]
   refine cond_rule rfl (fun hb => ?_) fun hb => ?_
   ·
    have hc73 : (decide (p4 < 0)) = true := by first | exact hb | simpa using hb
    rw [if_pos hc73] at hF
    refine region_rule rfl rfl rfl fun k0 hk0 => ?_
    iterate 2 (refine op_rule fun k hk => ?_; simp; rw [hk])
    obtain ⟨r68, h69, hF⟩ := bind_some hF
    have c70 : call 197 [.str p1, .str p2] = some (.int .i64 r68, [.undef, .undef]) := by rw [hcd]; exact F197_ok n (d + 0) p1 p2 r68 h69
    refine op_rule fun k hk => ?_; simp [c70]; rw [hk]
    obtain ⟨i71, h72, hF⟩ := bind_some hF
    have h72w : IntKind.i64.wrap (r68 + 1) = i71 := by rw [(rng_some h72).2, (rng_some h72).1]
    refine op_rule fun k hk => ?_; simp [h72w]; rw [hk]
    refine op_rule fun k hk => ?_; simp; rw [hk]
    refine nil_rule ?_
    rw [hk0]
    refine hJ8 i71 hF _ ?_
    first | rfl | (simp; done) | (simp [List.map_set, bytesV_eq]; done)
   ·
    have hc73 : ¬ (decide (p4 < 0)) = true := by first | (rw [hb]; simp; done) | simpa using hb
    rw [if_neg hc73] at hF
    refine skip_rule ?_
    refine hJ8 p4 hF _ ?_
    first | rfl | (simp; done) | (simp [List.map_set, bytesV_eq]; done)
theorem F120_ok (n d : Nat) (p1 : List UInt8) (p2 : List UInt8) (rs : (List (List UInt8))) (hF : F120 n p1 p2 = some rs) : callD tab prims n (d + 7) 120 [.str p1, .str p2] = some (.sl 1 false (rs.map encS), [.undef, .undef]) := by
 obtain ⟨call, hcd⟩ : ∃ call, call = callD tab prims n (d + 6) := ⟨_, rfl⟩
 refine call_rule (d := d + 6) (N120 _) rfl ?_
 rw [← hcd]
 show runBody (envOf tab fi120 call) n Tryz.f120 (codeOf Tryz.f120) [.str p1, .str p2] = some (.sl 1 false (rs.map encS), [.undef, .undef])
 unfold F120 at hF
 refine body_rule rfl rfl fun L hL K0 n0 r0 => ?_
 refine seq_rule fun K1 n1 e1 r1 => ?_
 refine region_rule rfl rfl rfl fun k0 hk0 => ?_
 refine op_rule fun k hk => ?_; simp; rw [hk]
 refine nil_rule ?_
 rw [hk0]
 rw [n1]
 refine seq_rule fun K2 n2 e2 r2 => ?_
 refine region_rule rfl rfl rfl fun k0 hk0 => ?_
 iterate 2 (refine op_rule fun k hk => ?_; simp; rw [hk])
 obtain ⟨r3, h4, hF⟩ := bind_some hF
 have c5 : call 155 [.str p1, .str p2, .int .i64 0, .int .i64 (-1)] = some (.sl 1 false (r3.map encS), [.undef, .undef, .undef, .undef]) := by rw [hcd]; exact F155_ok n (d + 0) p1 p2 0 (-1) r3 h4
 refine op_rule fun k hk => ?_; simp [c5]; rw [hk]
 refine op_rule fun k hk => ?_; simp; rw [hk]
 refine nil_rule ?_
 rw [hk0]
 rw [n2]
 refine ret_rule ?_
 obtain rfl := Option.some.inj hF
 rw [r0]
 simp [Tryz.f120, encS, bytesV_eq, List.map_set]
theorem F129_ok (n d : Nat) (p1 : List UInt8) (rs : Bool) (hF : F129 n p1 = some rs) : callD tab prims n (d + 2) 129 [.str p1] = some (.bool rs, [.undef]) := by
 obtain ⟨call, hcd⟩ : ∃ call, call = callD tab prims n (d + 1) := ⟨_, rfl⟩
 refine call_rule (d := d + 1) (N129 _) rfl ?_
 rw [← hcd]
 show runBody (envOf tab fi129 call) n Tryz.f129 (codeOf Tryz.f129) [.str p1] = some (.bool rs, [.undef])
 unfold F129 at hF
 refine body_rule rfl rfl fun L hL K0 n0 r0 => ?_
 refine seq_rule fun K1 n1 e1 r1 => ?_
 refine region_rule rfl rfl rfl fun k0 hk0 => ?_
 refine op_rule fun k hk => ?_; simp; rw [hk]
 refine nil_rule ?_
 rw [hk0]
 rw [n1]
 refine seq_rule fun K2 n2 e2 r2 => ?_
 refine region_rule rfl rfl rfl fun k0 hk0 => ?_
 iterate 3 (refine op_rule fun k hk => ?_; simp; rw [hk])
 refine op_rule fun k hk => ?_
 refine guard_mf (v := .str p1) rfl rfl rfl rfl (fun hb => by first | (simp [hb]; done) | (simp at hb; simp [hb, gv_pos]; done) | (simp (maxSteps := 1000000) [hb, gv_pos]; done)) ?_
 simp
 rw [hk]
 refine op_rule fun k hk => ?_
 refine guard_mf (v := .bool (p1 == ([46] : List UInt8))) rfl rfl rfl rfl (fun hb => by first | (simp [hb]; done) | (simp at hb; simp [hb, gv_pos]; done) | (simp (maxSteps := 1000000) [hb, gv_pos]; done)) ?_
 simp
 rw [hk]
 refine op_rule fun k hk => ?_
 refine pick_or (y := (p1 == ([46] : List UInt8))) rfl (unbarred_none rfl) rfl rfl rfl (fun hx => by first | rfl | (simp [hx]; done) | (simp at hx; simp [hx, gv_pos]; done) | (simp (maxSteps := 1000000) [hx, gv_pos]; done)) ?_
 simp
 rw [hk]
 refine op_rule fun k hk => ?_; simp; rw [hk]
 refine op_rule fun k hk => ?_
 refine guard_mf (v := .str p1) rfl rfl rfl rfl (fun hb => by first | (simp [hb]; done) | (simp at hb; simp [hb, gv_pos]; done) | (simp (maxSteps := 1000000) [hb, gv_pos]; done)) ?_
 simp
 rw [hk]
 refine op_rule fun k hk => ?_
 refine guard_mf (v := .bool (p1 == ([46, 46] : List UInt8))) rfl rfl rfl rfl (fun hb => by first | (simp [hb]; done) | (simp at hb; simp [hb, gv_pos]; done) | (simp (maxSteps := 1000000) [hb, gv_pos]; done)) ?_
 simp
 rw [hk]
 refine op_rule fun k hk => ?_
 refine pick_or (y := (p1 == ([46, 46] : List UInt8))) rfl (unbarred_none rfl) rfl rfl rfl (fun hx => by first | rfl | (simp [hx]; done) | (simp at hx; simp [hx, gv_pos]; done) | (simp (maxSteps := 1000000) [hx, gv_pos]; done)) ?_
 simp
 rw [hk]
 refine op_rule fun k hk => ?_; simp; rw [hk]
 refine op_rule fun k hk => ?_
 refine guard_mf (v := .str p1) rfl rfl rfl rfl (fun hb => by first | (simp [hb]; done) | (simp at hb; simp [hb, gv_pos]; done) | (simp (maxSteps := 1000000) [hb, gv_pos]; done)) ?_
 simp
 rw [hk]
 refine op_rule fun k hk => ?_
 refine guard_f rfl rfl rfl rfl (fun hg3r => ?_) fun hg3r => ?_
 ·
  have hg3 : (((p1 == ([] : List UInt8)) || (p1 == ([46] : List UInt8))) || (p1 == ([46, 46] : List UInt8))) = true := by first | exact hg3r | simpa using hg3r
  rw [if_pos hg3] at hF
  simp [hg3r]
  rw [hk]
  iterate 2 (refine op_rule fun k hk => ?_; simp; rw [hk])
  refine nil_rule ?_
  rw [hk0]
  rw [n2]
  refine ret_rule ?_
  obtain rfl := Option.some.inj hF
  rw [r0]
  simp [Tryz.f129, bytesV_eq, List.map_set]
 ·
  have hg3 : ¬ (((p1 == ([] : List UInt8)) || (p1 == ([46] : List UInt8))) || (p1 == ([46, 46] : List UInt8))) = true := by first | (rw [hg3r]; simp; done) | simpa using hg3r
  rw [if_neg hg3] at hF
  have c6 : call 130 [.str p1, .fn 131 []] = some (.bool (p1.any fun b => letN b.toNat), [.undef, .undef]) := by rw [hcd]; exact P130 n (d + 0) p1 
  have hg3n := hg3r
  try simp at hg3n
  simp [hg3r, hg3n, gv_pos, gv_neg, c6]
  rw [hk]
  iterate 2 (refine op_rule fun k hk => ?_; simp; rw [hk])
  refine nil_rule ?_
  rw [hk0]
  rw [n2]
  refine ret_rule ?_
  obtain rfl := Option.some.inj hF
  rw [r0]
  simp [Tryz.f129, bytesV_eq, List.map_set]
theorem F162_ok (n d : Nat) {f1 : Bool} (p1 : List (List UInt8)) (rs : Int) (hF : F162 n p1 = some rs) : callD tab prims n (d + 3) 162 [.sl 1 f1 (p1.map encS), .fn 129 []] = some (.int .i64 rs, [.undef, .undef]) := by
 obtain ⟨call, hcd⟩ : ∃ call, call = callD tab prims n (d + 2) := ⟨_, rfl⟩
 refine call_rule (d := d + 2) (N162 _) rfl ?_
 rw [← hcd]
 show runBody (envOf tab fi162 call) n Tryz.f162 (codeOf Tryz.f162) [.sl 1 f1 (p1.map encS), .fn 129 []] = some (.int .i64 rs, [.undef, .undef])
 unfold F162 at hF
 refine body_rule rfl rfl fun L hL K0 n0 r0 => ?_
 refine seq_rule fun K1 n1 e1 r1 => ?_
 refine region_rule rfl rfl rfl fun k0 hk0 => ?_
 refine op_rule fun k hk => ?_; simp; rw [hk]
 refine nil_rule ?_
 rw [hk0]
 rw [n1]
 refine seq_rule fun K2 n2 e2 r2 => ?_
 refine seq_rule fun K3 n3 e3 r3 => ?_
 refine region_rule rfl rfl rfl fun k0 hk0 => ?_
 iterate 3 (refine op_rule fun k hk => ?_; simp; rw [hk])
 refine nil_rule ?_
 rw [hk0]
 rw [n3]
 refine block_rule fun K4 n4 x4 e4 r4 => ?_
 refine loop_rule ?_
 rw [hL]
 refine loop_F 2 [0, 1, 7, 8] rfl rfl (fun b : Int => [.sl 1 f1 (p1.map encS), .fn 129 [], .undef, .undef, .undef, .undef, .undef, .int .i64 (p1.length : Int), .int .i64 b, .undef, .undef, .undef, .undef, .undef, .undef, .undef, .undef, .undef, .undef]) (fun m b => F162_L5 n p1 m b = some rs) (fun b h => by simp [F162_L5] at h) ?_ n 0 _ hF (by first | rfl | (simp; done) | (simp [List.map_set, bytesV_eq, encS]; done))
 rintro m5 v6 hF L5 hL5 K'5 hnorm5 hexit5 hret5
 replace hF : F162_L5 n p1 (m5 + 1) v6 = some rs := hF
 rw [F162_L5] at hF
 refine seq_rule fun K8 n8 e8 r8 => ?_
 refine region_keep rfl rfl rfl rfl fun k0 hk0 => ?_
 refine op_rule fun k hk => ?_; simp; rw [hk]
 refine nil_rule ?_
 rw [hk0]
 rw [n8]
 refine seq_rule fun K9 n9 e9 r9 => ?_
 refine cond_rule rfl (fun hb => ?_) fun hb => ?_
 ·
  have hc24 : (decide (v6 < (p1.length : Int))) = true := by first | exact hb | simpa using hb
  rw [if_pos hc24] at hF
  refine skip_rule ?_
  rw [n9]
  refine seq_rule fun K10 n10 e10 r10 => ?_
  refine block_rule fun K11 n11 x11 e11 r11 => ?_
  refine seq_rule fun K12 n12 e12 r12 => ?_
  refine region_rule rfl rfl rfl fun k0 hk0 => ?_
  iterate 2 (refine op_rule fun k hk => ?_; simp; rw [hk])
  refine nil_rule ?_
  rw [hk0]
  rw [n12]
  refine seq_rule fun K13 n13 e13 r13 => ?_
  refine region_rule rfl rfl rfl fun k0 hk0 => ?_
  iterate 3 (refine op_rule fun k hk => ?_; simp; rw [hk])
  obtain ⟨x14, h15, hF⟩ := bind_some hF
  obtain ⟨⟨h15a, h15b⟩, h15c, h15d⟩ := ix_some h15
  have h15r : (p1.map encS).getD v6.toNat [] = encS x14 := by rw [List.getD_eq_getElem?_getD, List.getElem?_map, show p1[v6.toNat]? = _ from h15d]; rfl
  refine op_rule fun k hk => ?_; simp [h15a, h15b, ↓h15r, encS]; rw [hk]
  refine op_rule fun k hk => ?_; simp; rw [hk]
  obtain ⟨r16, h17, hF⟩ := bind_some hF
  have c18 : call 129 [.str x14] = some (.bool r16, [.undef]) := by rw [hcd]; exact F129_ok n (d + 0) x14 r16 h17
  refine op_rule fun k hk => ?_; simp [c18]; rw [hk]
  refine nil_rule ?_
  rw [hk0]
  rw [n13]
  refine cond_rule rfl (fun hb => ?_) fun hb => ?_
  ·
   have hc22 : r16 = true := by first | exact hb | simpa using hb
   rw [if_pos hc22] at hF
   refine seq_rule fun K19 n19 e19 r19 => ?_
   refine region_rule rfl rfl rfl fun k0 hk0 => ?_
   iterate 2 (refine op_rule fun k hk => ?_; simp; rw [hk])
   refine nil_rule ?_
   rw [hk0]
   rw [n19]
   refine ret_rule ?_
   obtain rfl := Option.some.inj hF
   rw [r11, r10, hret5, r4, r2, r0]
   simp [Tryz.f162, bytesV_eq, List.map_set]
  ·
   have hc22 : ¬ r16 = true := by first | (rw [hb]; simp; done) | simpa using hb
   rw [if_neg hc22] at hF
   refine skip_rule ?_
   rw [n11, n10]
   refine region_rule rfl rfl rfl fun k0 hk0 => ?_
   obtain ⟨i20, h21, hF⟩ := bind_some hF
   have h21w : IntKind.i64.wrap (v6 + 1) = i20 := by rw [(rng_some h21).2, (rng_some h21).1]
   refine op_rule fun k hk => ?_; simp [h21w]; rw [hk]
   refine op_rule fun k hk => ?_; simp; rw [hk]
   refine nil_rule ?_
   rw [hk0]
   refine hnorm5 _ i20 hF ?_
   first | rfl | (simp; done) | (simp [List.map_set, bytesV_eq, encS]; done)
 ·
  have hc24 : ¬ (decide (v6 < (p1.length : Int))) = true := by first | (rw [hb]; simp; done) | simpa using hb
  rw [if_neg hc24] at hF
  refine exit_rule ?_
  rw [e9, hexit5, x4, n2]
  refine seq_rule fun K23 n23 e23 r23 => ?_
  refine region_rule rfl rfl rfl fun k0 hk0 => ?_
  refine op_rule fun k hk => ?_; simp; rw [hk]
  refine nil_rule ?_
  rw [hk0]
  rw [n23]
  refine ret_rule ?_
  obtain rfl := Option.some.inj hF
  rw [r0]
  simp [Tryz.f162, bytesV_eq, List.map_set]
theorem F128_ok (n d : Nat) {f1 : Bool} (p1 : List (List UInt8)) (rs : Bool) (hF : F128 n p1 = some rs) : callD tab prims n (d + 4) 128 [.sl 1 f1 (p1.map encS), .fn 129 []] = some (.bool rs, [.undef, .undef]) := by
 obtain ⟨call, hcd⟩ : ∃ call, call = callD tab prims n (d + 3) := ⟨_, rfl⟩
 refine call_rule (d := d + 3) (N128 _) rfl ?_
 rw [← hcd]
 show runBody (envOf tab fi128 call) n Tryz.f128 (codeOf Tryz.f128) [.sl 1 f1 (p1.map encS), .fn 129 []] = some (.bool rs, [.undef, .undef])
 unfold F128 at hF
 refine body_rule rfl rfl fun L hL K0 n0 r0 => ?_
 refine seq_rule fun K1 n1 e1 r1 => ?_
 refine region_rule rfl rfl rfl fun k0 hk0 => ?_
 refine op_rule fun k hk => ?_; simp; rw [hk]
 refine nil_rule ?_
 rw [hk0]
 rw [n1]
 refine seq_rule fun K2 n2 e2 r2 => ?_
 refine region_rule rfl rfl rfl fun k0 hk0 => ?_
 iterate 2 (refine op_rule fun k hk => ?_; simp; rw [hk])
 obtain ⟨r3, h4, hF⟩ := bind_some hF
 have c5 : call 162 [.sl 1 f1 (p1.map encS), .fn 129 []] = some (.int .i64 r3, [.undef, .undef]) := by rw [hcd]; exact F162_ok n (d + 0) p1 r3 h4
 refine op_rule fun k hk => ?_; simp [c5]; rw [hk]
 iterate 2 (refine op_rule fun k hk => ?_; simp; rw [hk])
 refine nil_rule ?_
 rw [hk0]
 rw [n2]
 refine ret_rule ?_
 obtain rfl := Option.some.inj hF
 rw [r0]
 simp [Tryz.f128, bytesV_eq, List.map_set]
theorem F88_ok (n d : Nat) (p1 : List UInt8) (rs : Bool) (hF : F88 n p1 = some rs) : callD tab prims n (d + 8) 88 [.str p1] = some (.bool rs, [.undef]) := by
 obtain ⟨call, hcd⟩ : ∃ call, call = callD tab prims n (d + 7) := ⟨_, rfl⟩
 refine call_rule (d := d + 7) (N88 _) rfl ?_
 rw [← hcd]
 show runBody (envOf tab fi88 call) n Tryz.f88 (codeOf Tryz.f88) [.str p1] = some (.bool rs, [.undef])
 unfold F88 at hF
 refine body_rule rfl rfl fun L hL K0 n0 r0 => ?_
 refine seq_rule fun K1 n1 e1 r1 => ?_
 refine region_rule rfl rfl rfl fun k0 hk0 => ?_
 refine op_rule fun k hk => ?_; simp; rw [hk]
 refine nil_rule ?_
 rw [hk0]
 rw [n1]
 refine seq_rule fun K2 n2 e2 r2 => ?_
 refine seq_rule fun K3 n3 e3 r3 => ?_
 refine region_rule rfl rfl rfl fun k0 hk0 => ?_
 iterate 4 (refine op_rule fun k hk => ?_; simp; rw [hk])
 refine op_rule fun k hk => ?_
 refine guard_mf (v := .str p1) rfl rfl rfl rfl (fun hb => by first | (simp [hb]; done) | (simp at hb; simp [hb, gv_pos]; done) | (simp (maxSteps := 1000000) [hb, gv_pos]; done)) ?_
 simp
 rw [hk]
 refine op_rule fun k hk => ?_
 refine guard_mf (v := .int .i64 (p1.length : Int)) rfl rfl rfl rfl (fun hb => by first | (simp [hb]; done) | (simp at hb; simp [hb, gv_pos]; done) | (simp (maxSteps := 1000000) [hb, gv_pos]; done)) ?_
 simp
 rw [hk]
 refine op_rule fun k hk => ?_
 refine guard_mf (v := .bool (decide ((p1.length : Int) > 60))) rfl rfl rfl rfl (fun hb => by first | (simp [hb]; done) | (simp at hb; simp [hb, gv_pos]; done) | (simp (maxSteps := 1000000) [hb, gv_pos]; done)) ?_
 simp
 rw [hk]
 refine op_rule fun k hk => ?_
 refine pick_or (y := (decide ((p1.length : Int) > 60))) rfl (unbarred_none rfl) rfl rfl rfl (fun hx => by first | rfl | (simp [hx]; done) | (simp at hx; simp [hx, gv_pos]; done) | (simp (maxSteps := 1000000) [hx, gv_pos]; done)) ?_
 simp
 rw [hk]
 refine nil_rule ?_
 rw [hk0]
 rw [n3]
 refine cond_rule rfl (fun hb => ?_) fun hb => ?_
 ·
  have hc12 : (((p1.length : Int) == 0) || (decide ((p1.length : Int) > 60))) = true := by first | exact hb | simpa using hb
  rw [if_pos hc12] at hF
  refine seq_rule fun K4 n4 e4 r4 => ?_
  refine region_rule rfl rfl rfl fun k0 hk0 => ?_
  refine op_rule fun k hk => ?_; simp; rw [hk]
  refine nil_rule ?_
  rw [hk0]
  rw [n4]
  refine ret_rule ?_
  obtain rfl := Option.some.inj hF
  rw [r2, r0]
  simp [Tryz.f88, bytesV_eq, List.map_set]
 ·
  have hc12 : ¬ (((p1.length : Int) == 0) || (decide ((p1.length : Int) > 60))) = true := by first | (rw [hb]; simp; done) | simpa using hb
  rw [if_neg hc12] at hF
  refine skip_rule ?_
  rw [n2]
  refine seq_rule fun K5 n5 e5 r5 => ?_
  refine region_keep rfl rfl rfl rfl fun k0 hk0 => ?_
  refine op_rule fun k hk => ?_; simp; rw [hk]
  obtain ⟨r6, h7, hF⟩ := bind_some hF
  have c8 : call 120 [.str p1, .str ([47] : List UInt8)] = some (.sl 1 false (r6.map encS), [.undef, .undef]) := by rw [hcd]; exact F120_ok n (d + 0) p1 ([47] : List UInt8) r6 h7
  refine op_rule fun k hk => ?_; simp [c8]; rw [hk]
  obtain ⟨r9, h10, hF⟩ := bind_some hF
  have c11 : call 128 [.sl 1 false (r6.map encS), .fn 129 []] = some (.bool r9, [.undef, .undef]) := by rw [hcd]; exact F128_ok n (d + 3) r6 r9 h10
  refine op_rule fun k hk => ?_; simp [c11]; rw [hk]
  iterate 2 (refine op_rule fun k hk => ?_; simp; rw [hk])
  refine nil_rule ?_
  rw [hk0]
  rw [n5]
  refine ret_rule ?_
  obtain rfl := Option.some.inj hF
  rw [r0]
  simp [Tryz.f88, bytesV_eq, List.map_set]
theorem F200_ok (n d : Nat) (p1 : List UInt8) (p2 : Int) (rs : Int) (hF : F200 n p1 p2 = some rs) : callD tab prims n (d + 3) 200 [.str p1, .int .u8 p2] = some (.int .i64 rs, [.undef, .undef]) := by
 obtain ⟨call, hcd⟩ : ∃ call, call = callD tab prims n (d + 2) := ⟨_, rfl⟩
 refine call_rule (d := d + 2) (N200 _) rfl ?_
 rw [← hcd]
 show runBody (envOf tab fi200 call) n Tryz.f200 (codeOf Tryz.f200) [.str p1, .int .u8 p2] = some (.int .i64 rs, [.undef, .undef])
 unfold F200 at hF
 refine body_rule rfl rfl fun L hL K0 n0 r0 => ?_
 refine seq_rule fun K1 n1 e1 r1 => ?_
 refine region_rule rfl rfl rfl fun k0 hk0 => ?_
 refine op_rule fun k hk => ?_; simp; rw [hk]
 refine nil_rule ?_
 rw [hk0]
 rw [n1]
 refine seq_rule fun K2 n2 e2 r2 => ?_
 refine region_rule rfl rfl rfl fun k0 hk0 => ?_
 iterate 2 (refine op_rule fun k hk => ?_; simp; rw [hk])
 obtain ⟨r3, h4, hF⟩ := bind_some hF
 have c5 : call 222 [.str p1, .int .u8 p2] = some (.int .i64 r3, [.undef, .undef]) := by rw [hcd]; exact F222_ok n (d + 0) p1 p2 r3 h4
 refine op_rule fun k hk => ?_; simp [c5]; rw [hk]
 refine op_rule fun k hk => ?_; simp; rw [hk]
 refine nil_rule ?_
 rw [hk0]
 rw [n2]
 refine ret_rule ?_
 obtain rfl := Option.some.inj hF
 rw [r0]
 simp [Tryz.f200, bytesV_eq, List.map_set]
theorem F202_ok (n d : Nat) (p1 : List UInt8) (rs : Bool) (hF : F202 n p1 = some rs) : callD tab prims n (d + 4) 202 [.str p1] = some (.bool rs, [.undef]) := by
 obtain ⟨call, hcd⟩ : ∃ call, call = callD tab prims n (d + 3) := ⟨_, rfl⟩
 refine call_rule (d := d + 3) (N202 _) rfl ?_
 rw [← hcd]
 show runBody (envOf tab fi202 call) n Tryz.f202 (codeOf Tryz.f202) [.str p1] = some (.bool rs, [.undef])
 unfold F202 at hF
 refine body_rule rfl rfl fun L hL K0 n0 r0 => ?_
 refine seq_rule fun K1 n1 e1 r1 => ?_
 refine region_rule rfl rfl rfl fun k0 hk0 => ?_
 refine op_rule fun k hk => ?_; simp; rw [hk]
 refine nil_rule ?_
 rw [hk0]
 rw [n1]
 refine seq_rule fun K2 n2 e2 r2 => ?_
 refine region_rule rfl rfl rfl fun k0 hk0 => ?_
 iterate 4 (refine op_rule fun k hk => ?_; simp; rw [hk])
 refine op_rule fun k hk => ?_
 refine guard_mf (v := .str p1) rfl rfl rfl rfl (fun hb => by first | (simp [hb]; done) | (simp at hb; simp [hb, gv_pos]; done) | (simp (maxSteps := 1000000) [hb, gv_pos]; done)) ?_
 simp
 rw [hk]
 refine op_rule fun k hk => ?_
 refine guard_f rfl rfl rfl rfl (fun hg3r => ?_) fun hg3r => ?_
 ·
  have hg3 : (decide ((p1.length : Int) > 2000)) = true := by first | exact hg3r | simpa using hg3r
  rw [if_pos hg3] at hF
  simp [hg3r]
  rw [hk]
  iterate 3 (refine op_rule fun k hk => ?_; simp; rw [hk])
  refine nil_rule ?_
  rw [hk0]
  rw [n2]
  refine ret_rule ?_
  obtain rfl := Option.some.inj hF
  rw [r0]
  simp [Tryz.f202, bytesV_eq, List.map_set]
 ·
  have hg3 : ¬ (decide ((p1.length : Int) > 2000)) = true := by first | (rw [hg3r]; simp; done) | simpa using hg3r
  rw [if_neg hg3] at hF
  obtain ⟨r4, h5, hF⟩ := bind_some hF
  have c6 : call 200 [.str p1, .int .u8 10] = some (.int .i64 r4, [.undef, .undef]) := by rw [hcd]; exact F200_ok n (d + 0) p1 10 r4 h5
  have hg3n := hg3r
  try simp at hg3n
  simp [hg3r, hg3n, gv_pos, gv_neg, c6]
  rw [hk]
  iterate 3 (refine op_rule fun k hk => ?_; simp; rw [hk])
  refine nil_rule ?_
  rw [hk0]
  rw [n2]
  refine ret_rule ?_
  obtain rfl := Option.some.inj hF
  rw [r0]
  simp [Tryz.f202, bytesV_eq, List.map_set]
theorem F162b_ok (n d : Nat) {f1 : Bool} (p1 : List (List UInt8)) (rs : Int) (hF : F162b n p1 = some rs) : callD tab prims n (d + 5) 162 [.sl 1 f1 (p1.map encS), .fn 202 []] = some (.int .i64 rs, [.undef, .undef]) := by
 obtain ⟨call, hcd⟩ : ∃ call, call = callD tab prims n (d + 4) := ⟨_, rfl⟩
 refine call_rule (d := d + 4) (N162 _) rfl ?_
 rw [← hcd]
 show runBody (envOf tab fi162 call) n Tryz.f162 (codeOf Tryz.f162) [.sl 1 f1 (p1.map encS), .fn 202 []] = some (.int .i64 rs, [.undef, .undef])
 unfold F162b at hF
 refine body_rule rfl rfl fun L hL K0 n0 r0 => ?_
 refine seq_rule fun K1 n1 e1 r1 => ?_
 refine region_rule rfl rfl rfl fun k0 hk0 => ?_
 refine op_rule fun k hk => ?_; simp; rw [hk]
 refine nil_rule ?_
 rw [hk0]
 rw [n1]
 refine seq_rule fun K2 n2 e2 r2 => ?_
 refine seq_rule fun K3 n3 e3 r3 => ?_
 refine region_rule rfl rfl rfl fun k0 hk0 => ?_
 iterate 3 (refine op_rule fun k hk => ?_; simp; rw [hk])
 refine nil_rule ?_
 rw [hk0]
 rw [n3]
 refine block_rule fun K4 n4 x4 e4 r4 => ?_
 refine loop_rule ?_
 rw [hL]
 refine loop_F 2 [0, 1, 7, 8] rfl rfl (fun b : Int => [.sl 1 f1 (p1.map encS), .fn 202 [], .undef, .undef, .undef, .undef, .undef, .int .i64 (p1.length : Int), .int .i64 b, .undef, .undef, .undef, .undef, .undef, .undef, .undef, .undef, .undef, .undef]) (fun m b => F162b_L5 n p1 m b = some rs) (fun b h => by simp [F162b_L5] at h) ?_ n 0 _ hF (by first | rfl | (simp; done) | (simp [List.map_set, bytesV_eq, encS]; done))
 rintro m5 v6 hF L5 hL5 K'5 hnorm5 hexit5 hret5
 replace hF : F162b_L5 n p1 (m5 + 1) v6 = some rs := hF
 rw [F162b_L5] at hF
 refine seq_rule fun K8 n8 e8 r8 => ?_
 refine region_keep rfl rfl rfl rfl fun k0 hk0 => ?_
 refine op_rule fun k hk => ?_; simp; rw [hk]
 refine nil_rule ?_
 rw [hk0]
 rw [n8]
 refine seq_rule fun K9 n9 e9 r9 => ?_
 refine cond_rule rfl (fun hb => ?_) fun hb => ?_
 ·
  have hc24 : (decide (v6 < (p1.length : Int))) = true := by first | exact hb | simpa using hb
  rw [if_pos hc24] at hF
  refine skip_rule ?_
  rw [n9]
  refine seq_rule fun K10 n10 e10 r10 => ?_
  refine block_rule fun K11 n11 x11 e11 r11 => ?_
  refine seq_rule fun K12 n12 e12 r12 => ?_
  refine region_rule rfl rfl rfl fun k0 hk0 => ?_
  iterate 2 (refine op_rule fun k hk => ?_; simp; rw [hk])
  refine nil_rule ?_
  rw [hk0]
  rw [n12]
  refine seq_rule fun K13 n13 e13 r13 => ?_
  refine region_rule rfl rfl rfl fun k0 hk0 => ?_
  iterate 3 (refine op_rule fun k hk => ?_; simp; rw [hk])
  obtain ⟨x14, h15, hF⟩ := bind_some hF
  obtain ⟨⟨h15a, h15b⟩, h15c, h15d⟩ := ix_some h15
  have h15r : (p1.map encS).getD v6.toNat [] = encS x14 := by rw [List.getD_eq_getElem?_getD, List.getElem?_map, show p1[v6.toNat]? = _ from h15d]; rfl
  refine op_rule fun k hk => ?_; simp [h15a, h15b, ↓h15r, encS]; rw [hk]
  refine op_rule fun k hk => ?_; simp; rw [hk]
  obtain ⟨r16, h17, hF⟩ := bind_some hF
  have c18 : call 202 [.str x14] = some (.bool r16, [.undef]) := by rw [hcd]; exact F202_ok n (d + 0) x14 r16 h17
  refine op_rule fun k hk => ?_; simp [c18]; rw [hk]
  refine nil_rule ?_
  rw [hk0]
  rw [n13]
  refine cond_rule rfl (fun hb => ?_) fun hb => ?_
  ·
   have hc22 : r16 = true := by first | exact hb | simpa using hb
   rw [if_pos hc22] at hF
   refine seq_rule fun K19 n19 e19 r19 => ?_
   refine region_rule rfl rfl rfl fun k0 hk0 => ?_
   iterate 2 (refine op_rule fun k hk => ?_; simp; rw [hk])
   refine nil_rule ?_
   rw [hk0]
   rw [n19]
   refine ret_rule ?_
   obtain rfl := Option.some.inj hF
   rw [r11, r10, hret5, r4, r2, r0]
   simp [Tryz.f162, bytesV_eq, List.map_set]
  ·
   have hc22 : ¬ r16 = true := by first | (rw [hb]; simp; done) | simpa using hb
   rw [if_neg hc22] at hF
   refine skip_rule ?_
   rw [n11, n10]
   refine region_rule rfl rfl rfl fun k0 hk0 => ?_
   obtain ⟨i20, h21, hF⟩ := bind_some hF
   have h21w : IntKind.i64.wrap (v6 + 1) = i20 := by rw [(rng_some h21).2, (rng_some h21).1]
   refine op_rule fun k hk => ?_; simp [h21w]; rw [hk]
   refine op_rule fun k hk => ?_; simp; rw [hk]
   refine nil_rule ?_
   rw [hk0]
   refine hnorm5 _ i20 hF ?_
   first | rfl | (simp; done) | (simp [List.map_set, bytesV_eq, encS]; done)
 ·
  have hc24 : ¬ (decide (v6 < (p1.length : Int))) = true := by first | (rw [hb]; simp; done) | simpa using hb
  rw [if_neg hc24] at hF
  refine exit_rule ?_
  rw [e9, hexit5, x4, n2]
  refine seq_rule fun K23 n23 e23 r23 => ?_
  refine region_rule rfl rfl rfl fun k0 hk0 => ?_
  refine op_rule fun k hk => ?_; simp; rw [hk]
  refine nil_rule ?_
  rw [hk0]
  rw [n23]
  refine ret_rule ?_
  obtain rfl := Option.some.inj hF
  rw [r0]
  simp [Tryz.f162, bytesV_eq, List.map_set]
theorem F128b_ok (n d : Nat) {f1 : Bool} (p1 : List (List UInt8)) (rs : Bool) (hF : F128b n p1 = some rs) : callD tab prims n (d + 6) 128 [.sl 1 f1 (p1.map encS), .fn 202 []] = some (.bool rs, [.undef, .undef]) := by
 obtain ⟨call, hcd⟩ : ∃ call, call = callD tab prims n (d + 5) := ⟨_, rfl⟩
 refine call_rule (d := d + 5) (N128 _) rfl ?_
 rw [← hcd]
 show runBody (envOf tab fi128 call) n Tryz.f128 (codeOf Tryz.f128) [.sl 1 f1 (p1.map encS), .fn 202 []] = some (.bool rs, [.undef, .undef])
 unfold F128b at hF
 refine body_rule rfl rfl fun L hL K0 n0 r0 => ?_
 refine seq_rule fun K1 n1 e1 r1 => ?_
 refine region_rule rfl rfl rfl fun k0 hk0 => ?_
 refine op_rule fun k hk => ?_; simp; rw [hk]
 refine nil_rule ?_
 rw [hk0]
 rw [n1]
 refine seq_rule fun K2 n2 e2 r2 => ?_
 refine region_rule rfl rfl rfl fun k0 hk0 => ?_
 iterate 2 (refine op_rule fun k hk => ?_; simp; rw [hk])
 obtain ⟨r3, h4, hF⟩ := bind_some hF
 have c5 : call 162 [.sl 1 f1 (p1.map encS), .fn 202 []] = some (.int .i64 r3, [.undef, .undef]) := by rw [hcd]; exact F162b_ok n (d + 0) p1 r3 h4
 refine op_rule fun k hk => ?_; simp [c5]; rw [hk]
 iterate 2 (refine op_rule fun k hk => ?_; simp; rw [hk])
 refine nil_rule ?_
 rw [hk0]
 rw [n2]
 refine ret_rule ?_
 obtain rfl := Option.some.inj hF
 rw [r0]
 simp [Tryz.f128, bytesV_eq, List.map_set]
theorem F161_ok (n d : Nat) {f1 : Bool} (p1 : List (List UInt8)) (rs : Bool) (hF : F161 n p1 = some rs) : callD tab prims n (d + 7) 161 [.sl 1 f1 (p1.map encS)] = some (.bool rs, [.undef]) := by
 obtain ⟨call, hcd⟩ : ∃ call, call = callD tab prims n (d + 6) := ⟨_, rfl⟩
 refine call_rule (d := d + 6) (N161 _) rfl ?_
 rw [← hcd]
 show runBody (envOf tab fi161 call) n Tryz.f161 (codeOf Tryz.f161) [.sl 1 f1 (p1.map encS)] = some (.bool rs, [.undef])
 unfold F161 at hF
 refine body_rule rfl rfl fun L hL K0 n0 r0 => ?_
 refine seq_rule fun K1 n1 e1 r1 => ?_
 refine region_rule rfl rfl rfl fun k0 hk0 => ?_
 refine op_rule fun k hk => ?_; simp; rw [hk]
 refine nil_rule ?_
 rw [hk0]
 rw [n1]
 refine seq_rule fun K2 n2 e2 r2 => ?_
 refine region_rule rfl rfl rfl fun k0 hk0 => ?_
 iterate 4 (refine op_rule fun k hk => ?_; simp; rw [hk])
 refine op_rule fun k hk => ?_
 refine guard_mt (v := .sl 1 f1 (p1.map encS)) rfl rfl rfl rfl (fun hb => by first | (simp [hb]; done) | (simp at hb; simp [hb, gv_pos]; done) | (simp (maxSteps := 1000000) [hb, gv_pos]; done)) ?_
 simp
 rw [hk]
 refine op_rule fun k hk => ?_
 refine guard_t rfl rfl rfl rfl (fun hg3r => ?_) fun hg3r => ?_
 ·
  have hg3 : (decide ((p1.length : Int) ≤ 60)) = true := by first | exact hg3r | simpa using hg3r
  rw [if_pos hg3] at hF
  obtain ⟨r4, h5, hF⟩ := bind_some hF
  have c6 : call 128 [.sl 1 f1 (p1.map encS), .fn 202 []] = some (.bool r4, [.undef, .undef]) := by rw [hcd]; exact F128b_ok n (d + 0) p1 r4 h5
  have hg3n := hg3r
  try simp at hg3n
  simp [hg3r, hg3n, gv_pos, gv_neg, c6]
  rw [hk]
  iterate 3 (refine op_rule fun k hk => ?_; simp; rw [hk])
  refine nil_rule ?_
  rw [hk0]
  rw [n2]
  refine ret_rule ?_
  obtain rfl := Option.some.inj hF
  rw [r0]
  simp [Tryz.f161, bytesV_eq, List.map_set]
 ·
  have hg3 : ¬ (decide ((p1.length : Int) ≤ 60)) = true := by first | (rw [hg3r]; simp; done) | simpa using hg3r
  rw [if_neg hg3] at hF
  have hg3n := hg3r
  try simp at hg3n
  simp [hg3r, hg3n, gv_pos, gv_neg]
  rw [hk]
  iterate 3 (refine op_rule fun k hk => ?_; simp; rw [hk])
  refine nil_rule ?_
  rw [hk0]
  rw [n2]
  refine ret_rule ?_
  obtain rfl := Option.some.inj hF
  rw [r0]
  simp [Tryz.f161, bytesV_eq, List.map_set]
theorem F127_ok (n d : Nat) {f1 : Bool} {f2 : Bool} (p1 : Int) (p2 : List (List UInt8)) (p3 : List (List UInt8)) (rs : Bool) (hF : F127 n p1 p2 p3 = some rs) : callD tab prims n (d + 8) 127 [.agg [.int .i64 p1, .sl 1 f1 (p2.map encS), .sl 1 f2 (p3.map encS)]] = some (.bool rs, [.undef]) := by
 obtain ⟨call, hcd⟩ : ∃ call, call = callD tab prims n (d + 7) := ⟨_, rfl⟩
 refine call_rule (d := d + 7) (N127 _) rfl ?_
 rw [← hcd]
 show runBody (envOf tab fi127 call) n Tryz.f127 (codeOf Tryz.f127) [.agg [.int .i64 p1, .sl 1 f1 (p2.map encS), .sl 1 f2 (p3.map encS)]] = some (.bool rs, [.undef])
 unfold F127 at hF
 refine body_rule rfl rfl fun L hL K0 n0 r0 => ?_
 refine seq_rule fun K1 n1 e1 r1 => ?_
 refine region_rule rfl rfl rfl fun k0 hk0 => ?_
 iterate 2 (refine op_rule fun k hk => ?_; simp; rw [hk])
 refine nil_rule ?_
 rw [hk0]
 rw [n1]
 refine seq_rule fun K2 n2 e2 r2 => ?_
 refine region_rule rfl rfl rfl fun k0 hk0 => ?_
 iterate 4 (refine op_rule fun k hk => ?_; simp; rw [hk])
 refine op_rule fun k hk => ?_
 refine guard_t rfl rfl rfl rfl (fun hg3r => ?_) fun hg3r => ?_
 ·
  have hg3 : (decide (p1 ≥ 0)) = true := by first | exact hg3r | simpa using hg3r
  rw [if_pos hg3] at hF
  simp [hg3r]
  rw [hk]
  iterate 4 (refine op_rule fun k hk => ?_; simp; rw [hk])
  refine op_rule fun k hk => ?_
  refine guard_t rfl rfl rfl rfl (fun hg4r => ?_) fun hg4r => ?_
  ·
   have hg4 : (decide (p1 ≤ 60)) = true := by first | exact hg4r | simpa using hg4r
   rw [if_pos hg4] at hF
   simp [hg4r]
   rw [hk]
   refine op_rule fun k hk => ?_; simp; rw [hk]
   obtain ⟨r5, h6, hF⟩ := bind_some hF
   have c7 : call 161 [.sl 1 f1 (p2.map encS)] = some (.bool r5, [.undef]) := by rw [hcd]; exact F161_ok n (d + 0) p2 r5 h6
   refine op_rule fun k hk => ?_; simp [c7]; rw [hk]
   iterate 2 (refine op_rule fun k hk => ?_; simp; rw [hk])
   refine op_rule fun k hk => ?_
   refine guard_t rfl rfl rfl rfl (fun hg8r => ?_) fun hg8r => ?_
   ·
    have hg8 : r5 = true := by first | exact hg8r | simpa using hg8r
    rw [if_pos hg8] at hF
    simp [hg8r]
    rw [hk]
    refine op_rule fun k hk => ?_; simp; rw [hk]
    obtain ⟨r9, h10, hF⟩ := bind_some hF
    have c11 : call 161 [.sl 1 f2 (p3.map encS)] = some (.bool r9, [.undef]) := by rw [hcd]; exact F161_ok n (d + 0) p3 r9 h10
    refine op_rule fun k hk => ?_; simp [c11]; rw [hk]
    iterate 2 (refine op_rule fun k hk => ?_; simp; rw [hk])
    refine op_rule fun k hk => ?_
    refine guard_t rfl rfl rfl rfl (fun hg12r => ?_) fun hg12r => ?_
    ·
     have hg12 : r9 = true := by first | exact hg12r | simpa using hg12r
     rw [if_pos hg12] at hF
     simp [hg12r]
     rw [hk]
     iterate 5 (refine op_rule fun k hk => ?_; simp; rw [hk])
     obtain ⟨i13, h14, hF⟩ := bind_some hF
     have h14w : IntKind.i64.wrap ((p2.length : Int) + (p3.length : Int)) = i13 := by rw [(rng_some h14).2, (rng_some h14).1]
     refine op_rule fun k hk => ?_; simp [h14w]; rw [hk]
     iterate 3 (refine op_rule fun k hk => ?_; simp; rw [hk])
     refine nil_rule ?_
     rw [hk0]
     rw [n2]
     refine ret_rule ?_
     obtain rfl := Option.some.inj hF
     rw [r0]
     simp [Tryz.f127, bytesV_eq, List.map_set]
    ·
     have hg12 : ¬ r9 = true := by first | (rw [hg12r]; simp; done) | simpa using hg12r
     rw [if_neg hg12] at hF
     simp [hg12r]
     rw [hk]
     iterate 9 (refine op_rule fun k hk => ?_; simp; rw [hk])
     refine nil_rule ?_
     rw [hk0]
     rw [n2]
     refine ret_rule ?_
     obtain rfl := Option.some.inj hF
     rw [r0]
     simp [Tryz.f127, bytesV_eq, List.map_set]
   ·
    have hg8 : ¬ r5 = true := by first | (rw [hg8r]; simp; done) | simpa using hg8r
    rw [if_neg hg8] at hF
    simp [hg8r]
    rw [hk]
    iterate 14 (refine op_rule fun k hk => ?_; simp; rw [hk])
    refine nil_rule ?_
    rw [hk0]
    rw [n2]
    refine ret_rule ?_
    obtain rfl := Option.some.inj hF
    rw [r0]
    simp [Tryz.f127, bytesV_eq, List.map_set]
  ·
   have hg4 : ¬ (decide (p1 ≤ 60)) = true := by first | (rw [hg4r]; simp; done) | simpa using hg4r
   rw [if_neg hg4] at hF
   simp [hg4r]
   rw [hk]
   iterate 19 (refine op_rule fun k hk => ?_; simp; rw [hk])
   refine nil_rule ?_
   rw [hk0]
   rw [n2]
   refine ret_rule ?_
   obtain rfl := Option.some.inj hF
   rw [r0]
   simp [Tryz.f127, bytesV_eq, List.map_set]
 ·
  have hg3 : ¬ (decide (p1 ≥ 0)) = true := by first | (rw [hg3r]; simp; done) | simpa using hg3r
  rw [if_neg hg3] at hF
  simp [hg3r]
  rw [hk]
  iterate 24 (refine op_rule fun k hk => ?_; simp; rw [hk])
  refine nil_rule ?_
  rw [hk0]
  rw [n2]
  refine ret_rule ?_
  obtain rfl := Option.some.inj hF
  rw [r0]
  simp [Tryz.f127, bytesV_eq, List.map_set]
theorem F85_ok (n d : Nat) {f1 : Bool} (p1 : List GHunk) (rs : Int) (hF : F85 n p1 = some rs) : callD tab prims n (d + 9) 85 [.sl 3 f1 (p1.map encGHunk)] = some (.int .i64 rs, [.undef]) := by
 obtain ⟨call, hcd⟩ : ∃ call, call = callD tab prims n (d + 8) := ⟨_, rfl⟩
 refine call_rule (d := d + 8) (N85 _) rfl ?_
 rw [← hcd]
 show runBody (envOf tab fi85 call) n Tryz.f85 (codeOf Tryz.f85) [.sl 3 f1 (p1.map encGHunk)] = some (.int .i64 rs, [.undef])
 unfold F85 at hF
 refine body_rule rfl rfl fun L hL K0 n0 r0 => ?_
 refine seq_rule fun K1 n1 e1 r1 => ?_
 refine region_rule rfl rfl rfl fun k0 hk0 => ?_
 refine op_rule fun k hk => ?_; simp; rw [hk]
 refine nil_rule ?_
 rw [hk0]
 rw [n1]
 refine seq_rule fun K2 n2 e2 r2 => ?_
 refine seq_rule fun K3 n3 e3 r3 => ?_
 refine region_rule rfl rfl rfl fun k0 hk0 => ?_
 iterate 3 (refine op_rule fun k hk => ?_; simp; rw [hk])
 refine nil_rule ?_
 rw [hk0]
 rw [n3]
 refine cond_rule rfl (fun hb => ?_) fun hb => ?_
 ·
  have hc40 : (decide ((p1.length : Int) > 40)) = true := by first | exact hb | simpa using hb
  rw [if_pos hc40] at hF
  refine seq_rule fun K4 n4 e4 r4 => ?_
  refine region_rule rfl rfl rfl fun k0 hk0 => ?_
  refine op_rule fun k hk => ?_; simp; rw [hk]
  refine nil_rule ?_
  rw [hk0]
  rw [n4]
  refine ret_rule ?_
  obtain rfl := Option.some.inj hF
  rw [r2, r0]
  simp [Tryz.f85, bytesV_eq, List.map_set]
 ·
  have hc40 : ¬ (decide ((p1.length : Int) > 40)) = true := by first | (rw [hb]; simp; done) | simpa using hb
  rw [if_neg hc40] at hF
  refine skip_rule ?_
  rw [n2]
  refine seq_rule fun K5 n5 e5 r5 => ?_
  refine region_rule rfl rfl rfl fun k0 hk0 => ?_
  refine op_rule fun k hk => ?_; simp; rw [hk]
  refine nil_rule ?_
  rw [hk0]
  rw [n5]
  refine seq_rule fun K6 n6 e6 r6 => ?_
  refine seq_rule fun K7 n7 e7 r7 => ?_
  refine region_rule rfl rfl rfl fun k0 hk0 => ?_
  iterate 3 (refine op_rule fun k hk => ?_; simp; rw [hk])
  refine nil_rule ?_
  rw [hk0]
  rw [n7]
  refine block_rule fun K8 n8 x8 e8 r8 => ?_
  refine loop_rule ?_
  rw [hL]
  refine loop_F 5 [3, 9, 10, 11] rfl rfl (fun b : Int × Int => [.undef, .undef, .undef, .int .i64 b.1, .undef, .undef, .undef, .undef, .undef, .sl 3 f1 (p1.map encGHunk), .int .i64 (p1.length : Int), .int .i64 b.2, .undef, .undef, .undef, .undef, .undef, .undef, .undef, .undef, .undef, .undef, .undef, .undef, .undef, .undef, .undef, .undef, .undef, .undef, .undef, .undef]) (fun m b => F85_L9 n p1 m b.1 b.2 = some rs) (fun b h => by simp [F85_L9] at h) ?_ n (0, 0) _ hF (by first | rfl | (simp; done) | (simp [List.map_set, bytesV_eq, encGHunk]; done))
  rintro m9 ⟨v10, v11⟩ hF L9 hL9 K'9 hnorm9 hexit9 hret9
  replace hF : F85_L9 n p1 (m9 + 1) v10 v11 = some rs := hF
  rw [F85_L9] at hF
  refine seq_rule fun K14 n14 e14 r14 => ?_
  refine region_keep rfl rfl rfl rfl fun k0 hk0 => ?_
  refine op_rule fun k hk => ?_; simp; rw [hk]
  refine nil_rule ?_
  rw [hk0]
  rw [n14]
  refine seq_rule fun K15 n15 e15 r15 => ?_
  refine cond_rule rfl (fun hb => ?_) fun hb => ?_
  ·
   have hc37 : (decide (v11 < (p1.length : Int))) = true := by first | exact hb | simpa using hb
   rw [if_pos hc37] at hF
   refine skip_rule ?_
   rw [n15]
   refine seq_rule fun K16 n16 e16 r16 => ?_
   refine block_rule fun K17 n17 x17 e17 r17 => ?_
   refine seq_rule fun K18 n18 e18 r18 => ?_
   refine region_rule rfl rfl rfl fun k0 hk0 => ?_
   obtain ⟨x19, h20, hF⟩ := bind_some hF
   obtain ⟨⟨h20a, h20b⟩, h20c, h20d⟩ := ix_some h20
   have h20r : (p1.map encGHunk).getD v11.toNat [] = encGHunk x19 := by rw [List.getD_eq_getElem?_getD, List.getElem?_map, show p1[v11.toNat]? = _ from h20d]; rfl
   refine op_rule fun k hk => ?_; simp [h20a, h20b, ↓h20r, encGHunk]; rw [hk]
   refine op_rule fun k hk => ?_; simp [List.range_succ]; rw [hk]
   iterate 2 (refine op_rule fun k hk => ?_; simp; rw [hk])
   refine nil_rule ?_
   rw [hk0]
   rw [n18]
   refine seq_rule fun K21 n21 e21 r21 => ?_
   refine seq_rule fun K22 n22 e22 r22 => ?_
   refine region_rule rfl rfl rfl fun k0 hk0 => ?_
   refine op_rule fun k hk => ?_; simp [List.range_succ]; rw [hk]
   obtain ⟨r23, h24, hF⟩ := bind_some hF
   have c25 : call 127 [.agg [.int .i64 x19.at_, .sl 1 false (x19.old_.map encS), .sl 1 false (x19.new_.map encS)]] = some (.bool r23, [.undef]) := by rw [hcd]; exact F127_ok n (d + 0) x19.at_ x19.old_ x19.new_ r23 h24
   refine op_rule fun k hk => ?_; simp [c25]; rw [hk]
   iterate 2 (refine op_rule fun k hk => ?_; simp; rw [hk])
   refine op_rule fun k hk => ?_
   refine guard_f rfl rfl rfl rfl (fun hg26r => ?_) fun hg26r => ?_
   ·
    have hg26 : (!r23) = true := by first | exact hg26r | simpa using hg26r
    rw [if_pos hg26] at hF
    simp [hg26r]
    rw [hk]
    iterate 4 (refine op_rule fun k hk => ?_; simp; rw [hk])
    refine nil_rule ?_
    rw [hk0]
    rw [n22]
    refine cond_rule rfl (fun hb => ?_) fun hb => by simp at hb
    refine seq_rule fun K27 n27 e27 r27 => ?_
    refine region_rule rfl rfl rfl fun k0 hk0 => ?_
    refine op_rule fun k hk => ?_; simp; rw [hk]
    refine nil_rule ?_
    rw [hk0]
    rw [n27]
    refine ret_rule ?_
    obtain rfl := Option.some.inj hF
    rw [r21, r17, r16, hret9, r8, r6, r0]
    simp [Tryz.f85, bytesV_eq, List.map_set]
   ·
    have hg26 : ¬ (!r23) = true := by first | (rw [hg26r]; simp; done) | simpa using hg26r
    rw [if_neg hg26] at hF
    simp [hg26r]
    rw [hk]
    iterate 4 (refine op_rule fun k hk => ?_; simp; rw [hk])
    refine nil_rule ?_
    rw [hk0]
    rw [n22]
    refine cond_rule rfl (fun hb => ?_) fun hb => ?_
    ·
     have hc35 : (decide (x19.at_ < v10)) = true := by first | exact hb | simpa using hb
     rw [if_pos hc35] at hF
     refine seq_rule fun K28 n28 e28 r28 => ?_
     refine region_rule rfl rfl rfl fun k0 hk0 => ?_
     refine op_rule fun k hk => ?_; simp; rw [hk]
     refine nil_rule ?_
     rw [hk0]
     rw [n28]
     refine ret_rule ?_
     obtain rfl := Option.some.inj hF
     rw [r21, r17, r16, hret9, r8, r6, r0]
     simp [Tryz.f85, bytesV_eq, List.map_set]
    ·
     have hc35 : ¬ (decide (x19.at_ < v10)) = true := by first | (rw [hb]; simp; done) | simpa using hb
     rw [if_neg hc35] at hF
     refine skip_rule ?_
     rw [n21]
     refine region_keep rfl rfl rfl rfl fun k0 hk0 => ?_
     iterate 5 (refine op_rule fun k hk => ?_; simp; rw [hk])
     obtain ⟨i29, h30, hF⟩ := bind_some hF
     have h30w : IntKind.i64.wrap (x19.at_ + (x19.old_.length : Int)) = i29 := by rw [(rng_some h30).2, (rng_some h30).1]
     refine op_rule fun k hk => ?_; simp [h30w]; rw [hk]
     obtain ⟨i31, h32, hF⟩ := bind_some hF
     have h32w : IntKind.i64.wrap (i29 + 1) = i31 := by rw [(rng_some h32).2, (rng_some h32).1]
     refine op_rule fun k hk => ?_; simp [h32w]; rw [hk]
     refine op_rule fun k hk => ?_; simp; rw [hk]
     refine nil_rule ?_
     rw [hk0]
     rw [n17, n16]
     refine region_rule rfl rfl rfl fun k0 hk0 => ?_
     obtain ⟨i33, h34, hF⟩ := bind_some hF
     have h34w : IntKind.i64.wrap (v11 + 1) = i33 := by rw [(rng_some h34).2, (rng_some h34).1]
     refine op_rule fun k hk => ?_; simp [h34w]; rw [hk]
     refine op_rule fun k hk => ?_; simp; rw [hk]
     refine nil_rule ?_
     rw [hk0]
     refine hnorm9 _ (i31, i33) hF ?_
     first | rfl | (simp; done) | (simp [List.map_set, bytesV_eq, encGHunk]; done) | (simp [List.map_set, bytesV_eq, encGHunk, hg26r]; done)
  ·
   have hc37 : ¬ (decide (v11 < (p1.length : Int))) = true := by first | (rw [hb]; simp; done) | simpa using hb
   rw [if_neg hc37] at hF
   refine exit_rule ?_
   rw [e15, hexit9, x8, n6]
   refine seq_rule fun K36 n36 e36 r36 => ?_
   refine region_rule rfl rfl rfl fun k0 hk0 => ?_
   refine op_rule fun k hk => ?_; simp; rw [hk]
   refine nil_rule ?_
   rw [hk0]
   rw [n36]
   refine ret_rule ?_
   obtain rfl := Option.some.inj hF
   rw [r0]
   simp [Tryz.f85, bytesV_eq, List.map_set]
theorem F54_ok (n d : Nat) {f1 : Bool} (p1 : List UInt8) (p2 : Bool) (p3 : Bool) (p4 : List GHunk) (rs : Bool) (hF : F54 n p1 p2 p3 p4 = some rs) : callD tab prims n (d + 10) 54 [.agg [.str p1, .bool p2, .bool p3, .sl 3 f1 (p4.map encGHunk)]] = some (.bool rs, [.undef]) := by
 obtain ⟨call, hcd⟩ : ∃ call, call = callD tab prims n (d + 9) := ⟨_, rfl⟩
 refine call_rule (d := d + 9) (N54 _) rfl ?_
 rw [← hcd]
 show runBody (envOf tab fi54 call) n Tryz.f54 (codeOf Tryz.f54) [.agg [.str p1, .bool p2, .bool p3, .sl 3 f1 (p4.map encGHunk)]] = some (.bool rs, [.undef])
 unfold F54 at hF
 refine body_rule rfl rfl fun L hL K0 n0 r0 => ?_
 refine seq_rule fun K1 n1 e1 r1 => ?_
 refine region_rule rfl rfl rfl fun k0 hk0 => ?_
 iterate 2 (refine op_rule fun k hk => ?_; simp; rw [hk])
 refine nil_rule ?_
 rw [hk0]
 rw [n1]
 refine seq_rule fun K2 n2 e2 r2 => ?_
 have hJ2 : ∀ (_ : Unit), F54_J2 p2 p3 p4 = some rs → ∀ σ' : List V, keepOnly [1] σ' = [.undef, .obox [.str p1, .bool p2, .bool p3, .sl 3 f1 (p4.map encGHunk)], .undef, .undef, .undef, .undef, .undef, .undef, .undef, .undef, .undef, .undef, .undef, .undef, .undef, .undef, .undef, .undef, .undef, .undef, .undef, .undef, .undef, .undef, .undef, .undef, .undef, .undef, .undef, .undef, .undef, .undef, .undef, .undef, .undef, .undef, .undef, .undef, .undef, .undef, .undef, .undef, .undef, .undef, .undef, .undef, .undef, .undef, .undef, .undef, .undef, .undef, .undef, .undef, .undef, .undef, .undef, .undef, .undef, .undef, .undef, .undef, .undef, .undef] → K2 .normal σ' = some ((.bool rs, [.undef])) := by
  intro _ hF σ' hσ
  rw [n2]
  refine join_rule 3 [1] rfl rfl hσ ?_
  unfold F54_J2 at hF
  refine seq_rule fun K3 n3 e3 r3 => ?_
  have hJ3 : ∀ (_ : Unit), F54_J3 p2 p3 p4 = some rs → ∀ σ' : List V, keepOnly [1] σ' = [.undef, .obox [.str p1, .bool p2, .bool p3, .sl 3 f1 (p4.map encGHunk)], .undef, .undef, .undef, .undef, .undef, .undef, .undef, .undef, .undef, .undef, .undef, .undef, .undef, .undef, .undef, .undef, .undef, .undef, .undef, .undef, .undef, .undef, .undef, .undef, .undef, .undef, .undef, .undef, .undef, .undef, .undef, .undef, .undef, .undef, .undef, .undef, .undef, .undef, .undef, .undef, .undef, .undef, .undef, .undef, .undef, .undef, .undef, .undef, .undef, .undef, .undef, .undef, .undef, .undef, .undef, .undef, .undef, .undef, .undef, .undef, .undef, .undef] → K3 .normal σ' = some ((.bool rs, [.undef])) := by
   intro _ hF σ' hσ
   rw [n3]
   refine join_rule 5 [1] rfl rfl hσ ?_
   unfold F54_J3 at hF
   refine seq_rule fun K4 n4 e4 r4 => ?_
   refine seq_rule fun K5 n5 e5 r5 => ?_
   refine region_keep rfl rfl rfl rfl fun k0 hk0 => ?_
   iterate 5 (refine op_rule fun k hk => ?_; simp; rw [hk])
   refine op_rule fun k hk => ?_
   refine guard_f rfl rfl rfl rfl (fun hg6r => ?_) fun hg6r => ?_
   ·
    have hg6 : ((p4.length : Int) != 1) = true := by first | exact hg6r | simpa using hg6r
    rw [if_pos hg6] at hF
    simp [hg6r]
    rw [hk]
    iterate 6 (refine op_rule fun k hk => ?_; simp; rw [hk])
    refine nil_rule ?_
    rw [hk0]
    rw [n5]
    refine cond_rule rfl (fun hb => ?_) fun hb => by simp at hb
    refine seq_rule fun K7 n7 e7 r7 => ?_
    refine region_rule rfl rfl rfl fun k0 hk0 => ?_
    refine op_rule fun k hk => ?_; simp; rw [hk]
    refine nil_rule ?_
    rw [hk0]
    rw [n7]
    refine ret_rule ?_
    obtain rfl := Option.some.inj hF
    rw [r4, r0]
    simp [Tryz.f54, bytesV_eq, List.map_set]
   ·
    have hg6 : ¬ ((p4.length : Int) != 1) = true := by first | (rw [hg6r]; simp; done) | simpa using hg6r
    rw [if_neg hg6] at hF
    simp [hg6r]
    rw [hk]
    refine op_rule fun k hk => ?_; simp; rw [hk]
    obtain ⟨x8, h9, hF⟩ := bind_some hF
    obtain ⟨⟨h9a, h9b⟩, h9c, h9d⟩ := ix_some h9
    try simp at h9b
    have h9r : (p4.map encGHunk).getD (Int.toNat 0) [] = encGHunk x8 := by rw [List.getD_eq_getElem?_getD, List.getElem?_map, show p4[(Int.toNat 0)]? = _ from h9d]; rfl
    have h9s : (p4.map encGHunk).getD 0 [] = encGHunk x8 := by rw [List.getD_eq_getElem?_getD, List.getElem?_map, show p4[0]? = _ from h9d]; rfl
    refine op_rule fun k hk => ?_; simp [h9a, h9b, ↓h9r, ↓h9s, encGHunk]; rw [hk]
    iterate 4 (refine op_rule fun k hk => ?_; simp; rw [hk])
    refine nil_rule ?_
    rw [hk0]
    rw [n5]
    refine cond_rule rfl (fun hb => ?_) fun hb => ?_
    ·
     have hc17 : (x8.at_ != 0) = true := by first | exact hb | simpa using hb
     rw [if_pos hc17] at hF
     refine seq_rule fun K10 n10 e10 r10 => ?_
     refine region_rule rfl rfl rfl fun k0 hk0 => ?_
     refine op_rule fun k hk => ?_; simp; rw [hk]
     refine nil_rule ?_
     rw [hk0]
     rw [n10]
     refine ret_rule ?_
     obtain rfl := Option.some.inj hF
     rw [r4, r0]
     simp [Tryz.f54, bytesV_eq, List.map_set]
    ·
     have hc17 : ¬ (x8.at_ != 0) = true := by first | (rw [hb]; simp; done) | simpa using hb
     rw [if_neg hc17] at hF
     refine skip_rule ?_
     rw [n4]
     refine seq_rule fun K11 n11 e11 r11 => ?_
     refine region_keep rfl rfl rfl rfl fun k0 hk0 => ?_
     iterate 2 (refine op_rule fun k hk => ?_; simp; rw [hk])
     refine op_rule fun k hk => ?_; simp [h9a, h9b, ↓h9r, ↓h9s, encGHunk]; rw [hk]
     refine op_rule fun k hk => ?_; simp [List.range_succ]; rw [hk]
     iterate 2 (refine op_rule fun k hk => ?_; simp; rw [hk])
     refine nil_rule ?_
     rw [hk0]
     rw [n11]
     refine seq_rule fun K12 n12 e12 r12 => ?_
     refine region_rule rfl rfl rfl fun k0 hk0 => ?_
     iterate 3 (refine op_rule fun k hk => ?_; simp; rw [hk])
     refine op_rule fun k hk => ?_
     refine guard_f rfl rfl rfl rfl (fun hg13r => ?_) fun hg13r => ?_
     ·
      have hg13 : p2 = true := by first | exact hg13r | simpa using hg13r
      rw [if_pos hg13] at hF
      simp [hg13r]
      rw [hk]
      iterate 8 (refine op_rule fun k hk => ?_; simp; rw [hk])
      refine op_rule fun k hk => ?_
      refine guard_f rfl rfl rfl rfl (fun hg14r => ?_) fun hg14r => ?_
      ·
       have hg14 : p3 = true := by first | exact hg14r | simpa using hg14r
       rw [if_pos hg14] at hF
       simp [hg14r]
       rw [hk]
       iterate 6 (refine op_rule fun k hk => ?_; simp; rw [hk])
       refine nil_rule ?_
       rw [hk0]
       rw [n12]
       refine ret_rule ?_
       obtain rfl := Option.some.inj hF
       rw [r0]
       simp [Tryz.f54, bytesV_eq, List.map_set]
      ·
       have hg14 : ¬ p3 = true := by first | (rw [hg14r]; simp; done) | simpa using hg14r
       rw [if_neg hg14] at hF
       simp [hg14r]
       rw [hk]
       iterate 6 (refine op_rule fun k hk => ?_; simp; rw [hk])
       refine nil_rule ?_
       rw [hk0]
       rw [n12]
       refine ret_rule ?_
       obtain rfl := Option.some.inj hF
       rw [r0]
       simp [Tryz.f54, bytesV_eq, List.map_set]
     ·
      have hg13 : ¬ p2 = true := by first | (rw [hg13r]; simp; done) | simpa using hg13r
      rw [if_neg hg13] at hF
      simp [hg13r]
      rw [hk]
      iterate 5 (refine op_rule fun k hk => ?_; simp; rw [hk])
      refine op_rule fun k hk => ?_
      refine guard_t rfl rfl rfl rfl (fun hg15r => ?_) fun hg15r => ?_
      ·
       have hg15 : ((x8.old_.length : Int) == 0) = true := by first | exact hg15r | simpa using hg15r
       rw [if_pos hg15] at hF
       simp [hg15r]
       rw [hk]
       iterate 2 (refine op_rule fun k hk => ?_; simp; rw [hk])
       refine op_rule fun k hk => ?_
       refine guard_f rfl rfl rfl rfl (fun hg16r => ?_) fun hg16r => ?_
       ·
        have hg16 : p3 = true := by first | exact hg16r | simpa using hg16r
        rw [if_pos hg16] at hF
        simp [hg16r]
        rw [hk]
        iterate 6 (refine op_rule fun k hk => ?_; simp; rw [hk])
        refine nil_rule ?_
        rw [hk0]
        rw [n12]
        refine ret_rule ?_
        obtain rfl := Option.some.inj hF
        rw [r0]
        simp [Tryz.f54, bytesV_eq, List.map_set]
       ·
        have hg16 : ¬ p3 = true := by first | (rw [hg16r]; simp; done) | simpa using hg16r
        rw [if_neg hg16] at hF
        simp [hg16r]
        rw [hk]
        iterate 6 (refine op_rule fun k hk => ?_; simp; rw [hk])
        refine nil_rule ?_
        rw [hk0]
        rw [n12]
        refine ret_rule ?_
        obtain rfl := Option.some.inj hF
        rw [r0]
        simp [Tryz.f54, bytesV_eq, List.map_set]
      ·
       have hg15 : ¬ ((x8.old_.length : Int) == 0) = true := by first | (rw [hg15r]; simp; done) | simpa using hg15r
       rw [if_neg hg15] at hF
       simp [hg15r]
       rw [hk]
       iterate 9 (refine op_rule fun k hk => ?_; simp; rw [hk])
       refine nil_rule ?_
       rw [hk0]
       rw [n12]
       refine ret_rule ?_
       obtain rfl := Option.some.inj hF
       rw [r0]
       simp [Tryz.f54, bytesV_eq, List.map_set]
  refine seq_rule fun K18 n18 e18 r18 => ?_
  refine region_keep rfl rfl rfl rfl fun k0 hk0 => ?_
  iterate 3 (refine op_rule fun k hk => ?_; simp; rw [hk])
  refine op_rule fun k hk => ?_
  refine guard_t rfl rfl rfl rfl (fun hg19r => ?_) fun hg19r => ?_
  ·
   have hg19 : p2 = true := by first | exact hg19r | simpa using hg19r
   rw [if_pos hg19] at hF
   simp [hg19r]
   rw [hk]
   iterate 2 (refine op_rule fun k hk => ?_; simp; rw [hk])
   refine nil_rule ?_
   rw [hk0]
   rw [n18]
   refine cond_rule rfl (fun hb => ?_) fun hb => ?_
   ·
    have hc21 : p3 = true := by first | exact hb | simpa using hb
    rw [if_pos hc21] at hF
    refine seq_rule fun K20 n20 e20 r20 => ?_
    refine region_rule rfl rfl rfl fun k0 hk0 => ?_
    refine op_rule fun k hk => ?_; simp; rw [hk]
    refine nil_rule ?_
    rw [hk0]
    rw [n20]
    refine ret_rule ?_
    obtain rfl := Option.some.inj hF
    rw [r3, r0]
    simp [Tryz.f54, bytesV_eq, List.map_set]
   ·
    have hc21 : ¬ p3 = true := by first | (rw [hb]; simp; done) | simpa using hb
    rw [if_neg hc21] at hF
    refine skip_rule ?_
    refine hJ3 () hF _ ?_
    first | rfl | (simp; done) | (simp [List.map_set, bytesV_eq, encGHunk]; done) | (simp [List.map_set, bytesV_eq, encGHunk, hg19r]; done)
  ·
   have hg19 : ¬ p2 = true := by first | (rw [hg19r]; simp; done) | simpa using hg19r
   rw [if_neg hg19] at hF
   simp [hg19r]
   rw [hk]
   iterate 2 (refine op_rule fun k hk => ?_; simp; rw [hk])
   refine nil_rule ?_
   rw [hk0]
   rw [n18]
   refine cond_rule rfl (fun hb => by simp at hb) fun hb => ?_
   refine skip_rule ?_
   refine hJ3 () hF _ ?_
   first | rfl | (simp; done) | (simp [List.map_set, bytesV_eq, encGHunk]; done) | (simp [List.map_set, bytesV_eq, encGHunk, hg19r]; done)
 refine seq_rule fun K22 n22 e22 r22 => ?_
 refine region_rule rfl rfl rfl fun k0 hk0 => ?_
 iterate 2 (refine op_rule fun k hk => ?_; simp; rw [hk])
 obtain ⟨r23, h24, hF⟩ := bind_some hF
 have c25 : call 88 [.str p1] = some (.bool r23, [.undef]) := by rw [hcd]; exact F88_ok n (d + 1) p1 r23 h24
 refine op_rule fun k hk => ?_; simp [c25]; rw [hk]
 iterate 2 (refine op_rule fun k hk => ?_; simp; rw [hk])
 refine op_rule fun k hk => ?_
 refine guard_f rfl rfl rfl rfl (fun hg26r => ?_) fun hg26r => ?_
 ·
  have hg26 : (!r23) = true := by first | exact hg26r | simpa using hg26r
  rw [if_pos hg26] at hF
  simp [hg26r]
  rw [hk]
  iterate 14 (refine op_rule fun k hk => ?_; simp; rw [hk])
  refine nil_rule ?_
  rw [hk0]
  rw [n22]
  refine cond_rule rfl (fun hb => ?_) fun hb => by simp at hb
  refine seq_rule fun K27 n27 e27 r27 => ?_
  refine region_rule rfl rfl rfl fun k0 hk0 => ?_
  refine op_rule fun k hk => ?_; simp; rw [hk]
  refine nil_rule ?_
  rw [hk0]
  rw [n27]
  refine ret_rule ?_
  obtain rfl := Option.some.inj hF
  rw [r2, r0]
  simp [Tryz.f54, bytesV_eq, List.map_set]
 ·
  have hg26 : ¬ (!r23) = true := by first | (rw [hg26r]; simp; done) | simpa using hg26r
  rw [if_neg hg26] at hF
  simp [hg26r]
  rw [hk]
  iterate 3 (refine op_rule fun k hk => ?_; simp; rw [hk])
  refine op_rule fun k hk => ?_
  refine guard_t rfl rfl rfl rfl (fun hg28r => ?_) fun hg28r => ?_
  ·
   have hg28 : (!p2) = true := by first | exact hg28r | simpa using hg28r
   rw [if_pos hg28] at hF
   simp [hg28r]
   rw [hk]
   iterate 5 (refine op_rule fun k hk => ?_; simp; rw [hk])
   refine op_rule fun k hk => ?_
   refine guard_f rfl rfl rfl rfl (fun hg29r => ?_) fun hg29r => ?_
   ·
    have hg29 : (!p3) = true := by first | exact hg29r | simpa using hg29r
    rw [if_pos hg29] at hF
    simp [hg29r]
    rw [hk]
    iterate 4 (refine op_rule fun k hk => ?_; simp; rw [hk])
    refine nil_rule ?_
    rw [hk0]
    rw [n22]
    refine cond_rule rfl (fun hb => ?_) fun hb => by simp at hb
    refine seq_rule fun K30 n30 e30 r30 => ?_
    refine region_rule rfl rfl rfl fun k0 hk0 => ?_
    refine op_rule fun k hk => ?_; simp; rw [hk]
    refine nil_rule ?_
    rw [hk0]
    rw [n30]
    refine ret_rule ?_
    obtain rfl := Option.some.inj hF
    rw [r2, r0]
    simp [Tryz.f54, bytesV_eq, List.map_set]
   ·
    have hg29 : ¬ (!p3) = true := by first | (rw [hg29r]; simp; done) | simpa using hg29r
    rw [if_neg hg29] at hF
    simp [hg29r]
    rw [hk]
    refine op_rule fun k hk => ?_; simp; rw [hk]
    obtain ⟨r31, h32, hF⟩ := bind_some hF
    have c33 : call 85 [.sl 3 f1 (p4.map encGHunk)] = some (.int .i64 r31, [.undef]) := by rw [hcd]; exact F85_ok n (d + 0) p4 r31 h32
    refine op_rule fun k hk => ?_; simp [c33]; rw [hk]
    iterate 2 (refine op_rule fun k hk => ?_; simp; rw [hk])
    refine nil_rule ?_
    rw [hk0]
    rw [n22]
    refine cond_rule rfl (fun hb => ?_) fun hb => ?_
    ·
     have hc35 : (r31 != 0) = true := by first | exact hb | simpa using hb
     rw [if_pos hc35] at hF
     refine seq_rule fun K34 n34 e34 r34 => ?_
     refine region_rule rfl rfl rfl fun k0 hk0 => ?_
     refine op_rule fun k hk => ?_; simp; rw [hk]
     refine nil_rule ?_
     rw [hk0]
     rw [n34]
     refine ret_rule ?_
     obtain rfl := Option.some.inj hF
     rw [r2, r0]
     simp [Tryz.f54, bytesV_eq, List.map_set]
    ·
     have hc35 : ¬ (r31 != 0) = true := by first | (rw [hb]; simp; done) | simpa using hb
     rw [if_neg hc35] at hF
     refine skip_rule ?_
     refine hJ2 () hF _ ?_
     first | rfl | (simp; done) | (simp [List.map_set, bytesV_eq, encGHunk]; done) | (simp [List.map_set, bytesV_eq, encGHunk, hg26r, hg28r, hg29r]; done)
  ·
   have hg28 : ¬ (!p2) = true := by first | (rw [hg28r]; simp; done) | simpa using hg28r
   rw [if_neg hg28] at hF
   simp [hg28r]
   rw [hk]
   iterate 7 (refine op_rule fun k hk => ?_; simp; rw [hk])
   obtain ⟨r36, h37, hF⟩ := bind_some hF
   have c38 : call 85 [.sl 3 f1 (p4.map encGHunk)] = some (.int .i64 r36, [.undef]) := by rw [hcd]; exact F85_ok n (d + 0) p4 r36 h37
   refine op_rule fun k hk => ?_; simp [c38]; rw [hk]
   iterate 2 (refine op_rule fun k hk => ?_; simp; rw [hk])
   refine nil_rule ?_
   rw [hk0]
   rw [n22]
   refine cond_rule rfl (fun hb => ?_) fun hb => ?_
   ·
    have hc40 : (r36 != 0) = true := by first | exact hb | simpa using hb
    rw [if_pos hc40] at hF
    refine seq_rule fun K39 n39 e39 r39 => ?_
    refine region_rule rfl rfl rfl fun k0 hk0 => ?_
    refine op_rule fun k hk => ?_; simp; rw [hk]
    refine nil_rule ?_
    rw [hk0]
    rw [n39]
    refine ret_rule ?_
    obtain rfl := Option.some.inj hF
    rw [r2, r0]
    simp [Tryz.f54, bytesV_eq, List.map_set]
   ·
    have hc40 : ¬ (r36 != 0) = true := by first | (rw [hb]; simp; done) | simpa using hb
    rw [if_neg hc40] at hF
    refine skip_rule ?_
    refine hJ2 () hF _ ?_
    first | rfl | (simp; done) | (simp [List.map_set, bytesV_eq, encGHunk]; done) | (simp [List.map_set, bytesV_eq, encGHunk, hg26r, hg28r]; done)
theorem F53_ok (n d : Nat) {f1 : Bool} (p1 : List UInt8) (p2 : Bool) (p3 : Bool) (p4 : List GHunk) (rs : Bool) (hF : F53 n p1 p2 p3 p4 = some rs) : callD tab prims n (d + 11) 53 [.agg [.str p1, .bool p2, .bool p3, .sl 3 f1 (p4.map encGHunk)]] = some (.bool rs, [.undef]) := by
 obtain ⟨call, hcd⟩ : ∃ call, call = callD tab prims n (d + 10) := ⟨_, rfl⟩
 refine call_rule (d := d + 10) (N53 _) rfl ?_
 rw [← hcd]
 show runBody (envOf tab fi53 call) n Tryz.f53 (codeOf Tryz.f53) [.agg [.str p1, .bool p2, .bool p3, .sl 3 f1 (p4.map encGHunk)]] = some (.bool rs, [.undef])
 unfold F53 at hF
 refine body_rule rfl rfl fun L hL K0 n0 r0 => ?_
 refine seq_rule fun K1 n1 e1 r1 => ?_
 refine region_rule rfl rfl rfl fun k0 hk0 => ?_
 iterate 2 (refine op_rule fun k hk => ?_; simp; rw [hk])
 refine nil_rule ?_
 rw [hk0]
 rw [n1]
 refine seq_rule fun K2 n2 e2 r2 => ?_
 refine region_rule rfl rfl rfl fun k0 hk0 => ?_
 refine op_rule fun k hk => ?_; simp [List.range_succ]; rw [hk]
 obtain ⟨r3, h4, hF⟩ := bind_some hF
 have c5 : call 54 [.agg [.str p1, .bool p2, .bool p3, .sl 3 false (p4.map encGHunk)]] = some (.bool r3, [.undef]) := by rw [hcd]; exact F54_ok n (d + 0) p1 p2 p3 p4 r3 h4
 refine op_rule fun k hk => ?_; simp [c5]; rw [hk]
 iterate 2 (refine op_rule fun k hk => ?_; simp; rw [hk])
 refine nil_rule ?_
 rw [hk0]
 rw [n2]
 refine ret_rule ?_
 obtain rfl := Option.some.inj hF
 rw [r0]
 simp [Tryz.f53, bytesV_eq, List.map_set]
theorem F87b_ok (n d : Nat) {f1 : Bool} (p1 : List GPatch) (rs : Int) (hF : F87b n p1 = some rs) : callD tab prims n (d + 12) 87 [.sl 4 f1 (p1.map encGPatch), .fn 53 []] = some (.int .i64 rs, [.undef, .undef]) := by
 obtain ⟨call, hcd⟩ : ∃ call, call = callD tab prims n (d + 11) := ⟨_, rfl⟩
 refine call_rule (d := d + 11) (N87 _) rfl ?_
 rw [← hcd]
 show runBody (envOf tab fi87 call) n Tryz.f87 (codeOf Tryz.f87) [.sl 4 f1 (p1.map encGPatch), .fn 53 []] = some (.int .i64 rs, [.undef, .undef])
 unfold F87b at hF
 refine body_rule rfl rfl fun L hL K0 n0 r0 => ?_
 refine seq_rule fun K1 n1 e1 r1 => ?_
 refine region_rule rfl rfl rfl fun k0 hk0 => ?_
 refine op_rule fun k hk => ?_; simp; rw [hk]
 refine nil_rule ?_
 rw [hk0]
 rw [n1]
 refine seq_rule fun K2 n2 e2 r2 => ?_
 refine seq_rule fun K3 n3 e3 r3 => ?_
 refine region_rule rfl rfl rfl fun k0 hk0 => ?_
 iterate 3 (refine op_rule fun k hk => ?_; simp; rw [hk])
 refine nil_rule ?_
 rw [hk0]
 rw [n3]
 refine block_rule fun K4 n4 x4 e4 r4 => ?_
 refine loop_rule ?_
 rw [hL]
 refine loop_F 2 [0, 1, 7, 8] rfl rfl (fun b : Int => [.sl 4 f1 (p1.map encGPatch), .fn 53 [], .undef, .undef, .undef, .undef, .undef, .int .i64 (p1.length : Int), .int .i64 b, .undef, .undef, .undef, .undef, .undef, .undef, .undef, .undef, .undef, .undef]) (fun m b => F87b_L5 n p1 m b = some rs) (fun b h => by simp [F87b_L5] at h) ?_ n 0 _ hF (by first | rfl | (simp; done) | (simp [List.map_set, bytesV_eq, encGPatch]; done))
 rintro m5 v6 hF L5 hL5 K'5 hnorm5 hexit5 hret5
 replace hF : F87b_L5 n p1 (m5 + 1) v6 = some rs := hF
 rw [F87b_L5] at hF
 refine seq_rule fun K8 n8 e8 r8 => ?_
 refine region_keep rfl rfl rfl rfl fun k0 hk0 => ?_
 refine op_rule fun k hk => ?_; simp; rw [hk]
 refine nil_rule ?_
 rw [hk0]
 rw [n8]
 refine seq_rule fun K9 n9 e9 r9 => ?_
 refine cond_rule rfl (fun hb => ?_) fun hb => ?_
 ·
  have hc24 : (decide (v6 < (p1.length : Int))) = true := by first | exact hb | simpa using hb
  rw [if_pos hc24] at hF
  refine skip_rule ?_
  rw [n9]
  refine seq_rule fun K10 n10 e10 r10 => ?_
  refine block_rule fun K11 n11 x11 e11 r11 => ?_
  refine seq_rule fun K12 n12 e12 r12 => ?_
  refine region_rule rfl rfl rfl fun k0 hk0 => ?_
  iterate 2 (refine op_rule fun k hk => ?_; simp; rw [hk])
  refine nil_rule ?_
  rw [hk0]
  rw [n12]
  refine seq_rule fun K13 n13 e13 r13 => ?_
  refine region_rule rfl rfl rfl fun k0 hk0 => ?_
  iterate 3 (refine op_rule fun k hk => ?_; simp; rw [hk])
  obtain ⟨x14, h15, hF⟩ := bind_some hF
  obtain ⟨⟨h15a, h15b⟩, h15c, h15d⟩ := ix_some h15
  have h15r : (p1.map encGPatch).getD v6.toNat [] = encGPatch x14 := by rw [List.getD_eq_getElem?_getD, List.getElem?_map, show p1[v6.toNat]? = _ from h15d]; rfl
  refine op_rule fun k hk => ?_; simp [h15a, h15b, ↓h15r, encGPatch]; rw [hk]
  refine op_rule fun k hk => ?_; simp [List.range_succ]; rw [hk]
  obtain ⟨r16, h17, hF⟩ := bind_some hF
  have c18 : call 53 [.agg [.str x14.path_, .bool x14.was_, .bool x14.stays_, .sl 3 false (x14.hunks_.map encGHunk)]] = some (.bool r16, [.undef]) := by rw [hcd]; exact F53_ok n (d + 0) x14.path_ x14.was_ x14.stays_ x14.hunks_ r16 h17
  refine op_rule fun k hk => ?_; simp [c18]; rw [hk]
  refine nil_rule ?_
  rw [hk0]
  rw [n13]
  refine cond_rule rfl (fun hb => ?_) fun hb => ?_
  ·
   have hc22 : r16 = true := by first | exact hb | simpa using hb
   rw [if_pos hc22] at hF
   refine seq_rule fun K19 n19 e19 r19 => ?_
   refine region_rule rfl rfl rfl fun k0 hk0 => ?_
   iterate 2 (refine op_rule fun k hk => ?_; simp; rw [hk])
   refine nil_rule ?_
   rw [hk0]
   rw [n19]
   refine ret_rule ?_
   obtain rfl := Option.some.inj hF
   rw [r11, r10, hret5, r4, r2, r0]
   simp [Tryz.f87, bytesV_eq, List.map_set]
  ·
   have hc22 : ¬ r16 = true := by first | (rw [hb]; simp; done) | simpa using hb
   rw [if_neg hc22] at hF
   refine skip_rule ?_
   rw [n11, n10]
   refine region_rule rfl rfl rfl fun k0 hk0 => ?_
   obtain ⟨i20, h21, hF⟩ := bind_some hF
   have h21w : IntKind.i64.wrap (v6 + 1) = i20 := by rw [(rng_some h21).2, (rng_some h21).1]
   refine op_rule fun k hk => ?_; simp [h21w]; rw [hk]
   refine op_rule fun k hk => ?_; simp; rw [hk]
   refine nil_rule ?_
   rw [hk0]
   refine hnorm5 _ i20 hF ?_
   first | rfl | (simp; done) | (simp [List.map_set, bytesV_eq, encGPatch]; done)
 ·
  have hc24 : ¬ (decide (v6 < (p1.length : Int))) = true := by first | (rw [hb]; simp; done) | simpa using hb
  rw [if_neg hc24] at hF
  refine exit_rule ?_
  rw [e9, hexit5, x4, n2]
  refine seq_rule fun K23 n23 e23 r23 => ?_
  refine region_rule rfl rfl rfl fun k0 hk0 => ?_
  refine op_rule fun k hk => ?_; simp; rw [hk]
  refine nil_rule ?_
  rw [hk0]
  rw [n23]
  refine ret_rule ?_
  obtain rfl := Option.some.inj hF
  rw [r0]
  simp [Tryz.f87, bytesV_eq, List.map_set]
theorem F51b_ok (n d : Nat) {f1 : Bool} (p1 : List GPatch) (rs : Bool) (hF : F51b n p1 = some rs) : callD tab prims n (d + 13) 51 [.sl 4 f1 (p1.map encGPatch), .fn 53 []] = some (.bool rs, [.undef, .undef]) := by
 obtain ⟨call, hcd⟩ : ∃ call, call = callD tab prims n (d + 12) := ⟨_, rfl⟩
 refine call_rule (d := d + 12) (N51 _) rfl ?_
 rw [← hcd]
 show runBody (envOf tab fi51 call) n Tryz.f51 (codeOf Tryz.f51) [.sl 4 f1 (p1.map encGPatch), .fn 53 []] = some (.bool rs, [.undef, .undef])
 unfold F51b at hF
 refine body_rule rfl rfl fun L hL K0 n0 r0 => ?_
 refine seq_rule fun K1 n1 e1 r1 => ?_
 refine region_rule rfl rfl rfl fun k0 hk0 => ?_
 refine op_rule fun k hk => ?_; simp; rw [hk]
 refine nil_rule ?_
 rw [hk0]
 rw [n1]
 refine seq_rule fun K2 n2 e2 r2 => ?_
 refine region_rule rfl rfl rfl fun k0 hk0 => ?_
 iterate 2 (refine op_rule fun k hk => ?_; simp; rw [hk])
 obtain ⟨r3, h4, hF⟩ := bind_some hF
 have c5 : call 87 [.sl 4 f1 (p1.map encGPatch), .fn 53 []] = some (.int .i64 r3, [.undef, .undef]) := by rw [hcd]; exact F87b_ok n (d + 0) p1 r3 h4
 refine op_rule fun k hk => ?_; simp [c5]; rw [hk]
 iterate 2 (refine op_rule fun k hk => ?_; simp; rw [hk])
 refine nil_rule ?_
 rw [hk0]
 rw [n2]
 refine ret_rule ?_
 obtain rfl := Option.some.inj hF
 rw [r0]
 simp [Tryz.f51, bytesV_eq, List.map_set]
theorem F23_ok (n d : Nat) {f1 : Bool} (p1 : List GPatch) (rs : Int) (hF : F23 n p1 = some rs) : callD tab prims n (d + 14) 23 [.sl 4 f1 (p1.map encGPatch)] = some (.int .i64 rs, [.undef]) := by
 obtain ⟨call, hcd⟩ : ∃ call, call = callD tab prims n (d + 13) := ⟨_, rfl⟩
 refine call_rule (d := d + 13) (N23 _) rfl ?_
 rw [← hcd]
 show runBody (envOf tab fi23 call) n Tryz.f23 (codeOf Tryz.f23) [.sl 4 f1 (p1.map encGPatch)] = some (.int .i64 rs, [.undef])
 unfold F23 at hF
 refine body_rule rfl rfl fun L hL K0 n0 r0 => ?_
 refine seq_rule fun K1 n1 e1 r1 => ?_
 refine region_rule rfl rfl rfl fun k0 hk0 => ?_
 refine op_rule fun k hk => ?_; simp; rw [hk]
 refine nil_rule ?_
 rw [hk0]
 rw [n1]
 refine seq_rule fun K2 n2 e2 r2 => ?_
 refine seq_rule fun K3 n3 e3 r3 => ?_
 refine region_rule rfl rfl rfl fun k0 hk0 => ?_
 iterate 3 (refine op_rule fun k hk => ?_; simp; rw [hk])
 refine nil_rule ?_
 rw [hk0]
 rw [n3]
 refine cond_rule rfl (fun hb => ?_) fun hb => ?_
 ·
  have hc38 : (decide ((p1.length : Int) > 24)) = true := by first | exact hb | simpa using hb
  rw [if_pos hc38] at hF
  refine seq_rule fun K4 n4 e4 r4 => ?_
  refine region_rule rfl rfl rfl fun k0 hk0 => ?_
  refine op_rule fun k hk => ?_; simp; rw [hk]
  refine nil_rule ?_
  rw [hk0]
  rw [n4]
  refine ret_rule ?_
  obtain rfl := Option.some.inj hF
  rw [r2, r0]
  simp [Tryz.f23, bytesV_eq, List.map_set]
 ·
  have hc38 : ¬ (decide ((p1.length : Int) > 24)) = true := by first | (rw [hb]; simp; done) | simpa using hb
  rw [if_neg hc38] at hF
  refine skip_rule ?_
  rw [n2]
  refine seq_rule fun K5 n5 e5 r5 => ?_
  refine seq_rule fun K6 n6 e6 r6 => ?_
  refine region_rule rfl rfl rfl fun k0 hk0 => ?_
  iterate 3 (refine op_rule fun k hk => ?_; simp; rw [hk])
  refine nil_rule ?_
  rw [hk0]
  rw [n6]
  refine block_rule fun K7 n7 x7 e7 r7 => ?_
  refine loop_rule ?_
  rw [hL]
  refine loop_F 4 [0, 8, 9, 10] rfl rfl (fun b : Int => [.sl 4 f1 (p1.map encGPatch), .undef, .undef, .undef, .undef, .undef, .undef, .undef, .sl 4 f1 (p1.map encGPatch), .int .i64 (p1.length : Int), .int .i64 b, .undef, .undef, .undef, .undef, .undef, .undef, .undef, .undef, .undef, .undef, .undef, .undef]) (fun m b => F23_L8 n p1 m b = some rs) (fun b h => by simp [F23_L8] at h) ?_ n 0 _ hF (by first | rfl | (simp; done) | (simp [List.map_set, bytesV_eq, encGPatch]; done))
  rintro m8 v9 hF L8 hL8 K'8 hnorm8 hexit8 hret8
  replace hF : F23_L8 n p1 (m8 + 1) v9 = some rs := hF
  rw [F23_L8] at hF
  refine seq_rule fun K11 n11 e11 r11 => ?_
  refine region_keep rfl rfl rfl rfl fun k0 hk0 => ?_
  refine op_rule fun k hk => ?_; simp; rw [hk]
  refine nil_rule ?_
  rw [hk0]
  rw [n11]
  refine seq_rule fun K12 n12 e12 r12 => ?_
  refine cond_rule rfl (fun hb => ?_) fun hb => ?_
  ·
   have hc36 : (decide (v9 < (p1.length : Int))) = true := by first | exact hb | simpa using hb
   rw [if_pos hc36] at hF
   refine skip_rule ?_
   rw [n12]
   refine seq_rule fun K13 n13 e13 r13 => ?_
   refine block_rule fun K14 n14 x14 e14 r14 => ?_
   refine seq_rule fun K15 n15 e15 r15 => ?_
   refine region_rule rfl rfl rfl fun k0 hk0 => ?_
   refine op_rule fun k hk => ?_; simp; rw [hk]
   obtain ⟨x16, h17, hF⟩ := bind_some hF
   obtain ⟨⟨h17a, h17b⟩, h17c, h17d⟩ := ix_some h17
   have h17r : (p1.map encGPatch).getD v9.toNat [] = encGPatch x16 := by rw [List.getD_eq_getElem?_getD, List.getElem?_map, show p1[v9.toNat]? = _ from h17d]; rfl
   refine op_rule fun k hk => ?_; simp [h17a, h17b, ↓h17r, encGPatch]; rw [hk]
   refine op_rule fun k hk => ?_; simp [List.range_succ]; rw [hk]
   iterate 3 (refine op_rule fun k hk => ?_; simp; rw [hk])
   refine nil_rule ?_
   rw [hk0]
   rw [n15]
   refine seq_rule fun K18 n18 e18 r18 => ?_
   refine region_rule rfl rfl rfl fun k0 hk0 => ?_
   iterate 2 (refine op_rule fun k hk => ?_; simp; rw [hk])
   obtain ⟨l19, h20, hF⟩ := bind_some hF
   obtain ⟨h20a, h20b, h20c, h20d, h20e⟩ := cutI_some h20
   have h20v0 : (p1.map encGPatch).take v9.toNat = l19.map encGPatch := by rw [h20e] <;> first | (simp [List.map_take, List.map_drop]; done) | (rw [List.take_of_length_le (l := (p1.map encGPatch)) (by simp)]; simp [List.map_take, List.map_drop])
   refine op_rule fun k hk => ?_; simp [h20b, h20c, h20d, h20v0]; rw [hk]
   refine op_rule fun k hk => ?_; simp [Go.Zv.sharedBox]; rw [hk]
   obtain ⟨r21, h22, hF⟩ := bind_some hF
   have c23 : call 51 [.sl 4 false (l19.map encGPatch), .fn 52 [.iptr [.str x16.path_, .bool x16.was_, .bool x16.stays_, .sl 3 false (x16.hunks_.map encGHunk)] 0]] = some (.bool r21, [.undef, .undef]) := by rw [hcd]; exact F51_ok n (d + 10) l19 x16.path_ x16.was_ x16.stays_ x16.hunks_ r21 h22
   refine op_rule fun k hk => ?_; simp [c23]; rw [hk]
   refine nil_rule ?_
   rw [hk0]
   rw [n18]
   refine cond_rule rfl (fun hb => ?_) fun hb => ?_
   ·
    have hc27 : r21 = true := by first | exact hb | simpa using hb
    rw [if_pos hc27] at hF
    refine seq_rule fun K24 n24 e24 r24 => ?_
    refine region_rule rfl rfl rfl fun k0 hk0 => ?_
    refine op_rule fun k hk => ?_; simp; rw [hk]
    refine nil_rule ?_
    rw [hk0]
    rw [n24]
    refine ret_rule ?_
    obtain rfl := Option.some.inj hF
    rw [r14, r13, hret8, r7, r5, r0]
    simp [Tryz.f23, bytesV_eq, List.map_set]
   ·
    have hc27 : ¬ r21 = true := by first | (rw [hb]; simp; done) | simpa using hb
    rw [if_neg hc27] at hF
    refine skip_rule ?_
    rw [n14, n13]
    refine region_rule rfl rfl rfl fun k0 hk0 => ?_
    obtain ⟨i25, h26, hF⟩ := bind_some hF
    have h26w : IntKind.i64.wrap (v9 + 1) = i25 := by rw [(rng_some h26).2, (rng_some h26).1]
    refine op_rule fun k hk => ?_; simp [h26w]; rw [hk]
    refine op_rule fun k hk => ?_; simp; rw [hk]
    refine nil_rule ?_
    rw [hk0]
    refine hnorm8 _ i25 hF ?_
    first | rfl | (simp; done) | (simp [List.map_set, bytesV_eq, encGPatch]; done)
  ·
   have hc36 : ¬ (decide (v9 < (p1.length : Int))) = true := by first | (rw [hb]; simp; done) | simpa using hb
   rw [if_neg hc36] at hF
   refine exit_rule ?_
   rw [e12, hexit8, x7, n5]
   refine seq_rule fun K28 n28 e28 r28 => ?_
   refine seq_rule fun K29 n29 e29 r29 => ?_
   refine region_rule rfl rfl rfl fun k0 hk0 => ?_
   refine op_rule fun k hk => ?_; simp; rw [hk]
   obtain ⟨r30, h31, hF⟩ := bind_some hF
   have c32 : call 51 [.sl 4 f1 (p1.map encGPatch), .fn 53 []] = some (.bool r30, [.undef, .undef]) := by rw [hcd]; exact F51b_ok n (d + 0) p1 r30 h31
   refine op_rule fun k hk => ?_; simp [c32]; rw [hk]
   refine nil_rule ?_
   rw [hk0]
   rw [n29]
   refine cond_rule rfl (fun hb => ?_) fun hb => ?_
   ·
    have hc35 : r30 = true := by first | exact hb | simpa using hb
    rw [if_pos hc35] at hF
    refine seq_rule fun K33 n33 e33 r33 => ?_
    refine region_rule rfl rfl rfl fun k0 hk0 => ?_
    refine op_rule fun k hk => ?_; simp; rw [hk]
    refine nil_rule ?_
    rw [hk0]
    rw [n33]
    refine ret_rule ?_
    obtain rfl := Option.some.inj hF
    rw [r28, r0]
    simp [Tryz.f23, bytesV_eq, List.map_set]
   ·
    have hc35 : ¬ r30 = true := by first | (rw [hb]; simp; done) | simpa using hb
    rw [if_neg hc35] at hF
    refine skip_rule ?_
    rw [n28]
    refine seq_rule fun K34 n34 e34 r34 => ?_
    refine region_rule rfl rfl rfl fun k0 hk0 => ?_
    refine op_rule fun k hk => ?_; simp; rw [hk]
    refine nil_rule ?_
    rw [hk0]
    rw [n34]
    refine ret_rule ?_
    obtain rfl := Option.some.inj hF
    rw [r0]
    simp [Tryz.f23, bytesV_eq, List.map_set]
theorem F38_ok (n d : Nat) (p1 : List UInt8) (rs : Bool) (hF : F38 n p1 = some rs) : callD tab prims n (d + 15) 38 [.str p1] = some (.bool rs, [.undef]) := by
 obtain ⟨call, hcd⟩ : ∃ call, call = callD tab prims n (d + 14) := ⟨_, rfl⟩
 refine call_rule (d := d + 14) (N38 _) rfl ?_
 rw [← hcd]
 show runBody (envOf tab fi38 call) n Tryz.f38 (codeOf Tryz.f38) [.str p1] = some (.bool rs, [.undef])
 unfold F38 at hF
 refine body_rule rfl rfl fun L hL K0 n0 r0 => ?_
 refine seq_rule fun K1 n1 e1 r1 => ?_
 refine region_rule rfl rfl rfl fun k0 hk0 => ?_
 refine op_rule fun k hk => ?_; simp; rw [hk]
 refine nil_rule ?_
 rw [hk0]
 rw [n1]
 refine seq_rule fun K2 n2 e2 r2 => ?_
 refine region_rule rfl rfl rfl fun k0 hk0 => ?_
 iterate 2 (refine op_rule fun k hk => ?_; simp; rw [hk])
 refine op_rule fun k hk => ?_; simp [Go.Zv.chunks, List.range_succ]; rw [hk]
 obtain ⟨r3, h4, hF⟩ := bind_some hF
 have c5 : call 23 [.sl 4 false (([[.str p1, .bool true, .bool true, .sl 3 false (([] : List (List V)))]] : List (List V)))] = some (.int .i64 r3, [.undef]) := by rw [hcd]; exact F23_ok n (d + 0) ([(⟨p1, true, true, ([] : List GHunk)⟩ : GPatch)] : List GPatch) r3 h4
 refine op_rule fun k hk => ?_; simp [c5]; rw [hk]
 iterate 2 (refine op_rule fun k hk => ?_; simp; rw [hk])
 refine nil_rule ?_
 rw [hk0]
 rw [n2]
 refine ret_rule ?_
 obtain rfl := Option.some.inj hF
 rw [r0]
 simp [Tryz.f38, bytesV_eq, List.map_set]
end Go.Proofs.YtdddbifjkkhpbaaGreatDoor.G
