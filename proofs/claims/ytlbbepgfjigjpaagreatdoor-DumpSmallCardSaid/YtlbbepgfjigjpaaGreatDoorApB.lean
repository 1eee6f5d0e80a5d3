/- The reference's Apply: behind the long test (2). -/
import Derived.Test.YtlbbepgfjigjpaaGreatDoorApA
set_option linter.unusedSimpArgs false
set_option linter.unusedVariables false
namespace Go.Proofs.YtlbbepgfjigjpaaGreatDoor
open Go.RowKit Go.Ab
attribute [local go_sem high] eq_rln eq_key wrapI wrapK
set_option maxHeartbeats 64000000 in
set_option maxRecDepth 100000 in
theorem rapKB2 : rapRB.2.1 := by
  unfold rapRB
  intro a l base0 w F cap capa N ll hle NA la hlea HN HNA Hba Hbl i0 Hi Hy0 Hy1 Hy2 HF i0_ z1 i1_ i2_ i3_ u4 u5 i4_ u9 u10 i5_ i6_ i7_ i8_ i9_ i10_ i11_ i12_ i13_ i14_ i15_ i16_ i17_ i18_ i19_ i20_ i21_ i22_ i23_ i24_ i25_ i26_ i27_ i28_ i29_ i30_ i31_
  intro i32_ i33_ i34_ i35_ i36_ i37_ u47 i38_ i39_ i40_ i41_ i42_ i43_ i44_ i45_ i46_ i47_ i48_ i49_ i50_ i51_ i52_ i53_ i54_ i55_ i56_ i57_ i58_ i59_ i60_ i61_ i62_ i63_ i64_ i65_ i66_ i67_ i68_ i69_ i70_ i71_ i72_ i73_ i74_ i75_ i76_ i77_ i78_ i79_ i80_ i81_ i82_ i83_ i84_ i85_ i86_ i87_ i88_ i89_ i90_
  intro i91_ i92_ i93_ i94_ i95_ i96_ i97_ i98_ i99_ i100_ i101_ i102_ i103_ i104_ i105_ i106_ i107_ i108_ i109_ i110_ i111_ i112_ i113_ i114_ i115_ i116_ i117_ i118_ i119_ i120_ i121_ i122_ i123_ i124_ i125_ i126_ i127_ i128_ i129_ i130_ i131_ i132_ i133_ i134_ i135_ i136_ i137_ i138_ i139_ i140_ i141_ i142_ i143_ i144_ i145_ i146_ i147_ i148_ i149_ i150_
  intro i151_ i152_ i153_ i154_ i155_ i156_ i157_ i158_ i159_ i160_ i161_ k j0 M0 hk i162_ hlt hlt' k0 c b1 o1 Hc hb1 cb1 cb2 Hx i163_ D Z uZ i164_ i165_ i166_ hkc wc u14 u15 u16 u17 u18 u19 u20 u21 u22 u23 u24 u25 u26 u27 u28 u29 u30 u31 u32 u33 u34 u35 u36 u37
  intro u38 u39 u40 u41 u42 u43 u44 u45 u46 i167_ i168_ i169_ i170_ i171_ i172_ i173_ i174_ i175_ i176_ i177_ i178_ i179_ i180_ i181_ i182_ i183_ i184_ i185_ i186_ i187_ i188_ i189_ i190_ u72 u73 u74 u75 u76 u77 u78 u79 u80 u81 u82 u83 u84 u85 u86 u87 u88 u89 u90 u91 u92 u93 u94 u95 u96 u97 u98
  intro u99 u100 u101 u102 u103 u104 u105 u106 u107 u108 u109 u110 u111 u112 u113 u114 u115 u116 u117 u118 u119 u120 u121 u122 u123 u124 u125 u126 u127 u128 u129 u130 u131 u132 u133 u134 u135 u136 u137 u138 u139 u140 u141 u142 u143 u144 u145 u146 u147 u148 u149 u150 u151 u152 u153 u154 u155 u156 u157 u158
  intro u159 u160 u161 u162 u163 u164 u165 u166 u167 u168 u169 u170 u171 hu3 i191_ i192_ i193_ hDc hk123 i194_ wr u6 u48 u49 u50 u51 u52 u53 u54 u55 u56 u57 u58 u59 u60 u61 u62 u63 u64 u65 u66 u67 u68 u69 u70 u71 j M hj HT hMl hu i195_ i196_ hja hja' jj0 y b2 o2
  intro HCA Hnil Hsom i197_ i198_ hb2 i199_ C Hy HC i200_ i201_ i202_ hC0 HTW HDH z3 there hthere hthU z4 i203_ i204_ i205_ i206_ W9 uW9 Hown hDr hY i207_ hZr c0w this hYk OK HAP hOK i0_ i1_ i2_ i3_ hOld hNew hOldK hNewK hkind
  have c0 : W9.cell? ⟨D, 0, none⟩ = some (.int .u8 2) := by rw [← hkind]; exact c0w
  obtain ⟨olda, holda⟩ : ∃ b, decide (c.old = y) = b := ⟨_, rfl⟩
  obtain ⟨newz, hnewz⟩ : ∃ b, decide (c.new = Ln.zero) = b := ⟨_, rfl⟩
  have hrt : ∀ W, Gives Tryz.prog 19 #[.agg c.new.cells.toArray] W (.bool c.new.right) := fun W => rright38_any c.new W cb2
  have hap : apOk (a.drop j) c = (there && (olda && newz)) := by rw [HDH.out]; rw [apOk_2h hkind, hthere, holda, hnewz]
  cases there
  · skip
    have hval : apOk (a.drop j) c = false := hap.trans (by cases olda <;> cases newz <;> rfl)
    obtain rfl : OK = false := by rw [← hOK]; exact hval
    clear hval hOK
    refine wp_region_ext (by kernel_rfl) (by kernel_rfl) ?_
    (try dsimp only [List.append])
    repeat (first
      | go_big_quiet_skip
      | ((with_reducible refine held ?_); refine HQ_load_mid (by kernel_rfl) 89 _ rfl D (0) rfl c.cells _ (range_ext hZr) Tryz.underlying89 rfl rchSize ?_; simp only [Act.put, List.setIfInBounds_toArray, List.set_cons_succ, List.set_cons_zero])
      | ((with_reducible refine held ?_); refine HQ_load_mid (by kernel_rfl) 60 _ rfl D (1) rfl c.old.cells _ (range_ext hOld) Tryz.underlying60 rfl rlnSize ?_; simp only [Act.put, List.setIfInBounds_toArray, List.set_cons_succ, List.set_cons_zero])
      | ((with_reducible refine held ?_); refine HQ_load_mid (by kernel_rfl) 60 _ rfl D (12) rfl c.new.cells _ (range_ext hNew) Tryz.underlying60 rfl rlnSize ?_; simp only [Act.put, List.setIfInBounds_toArray, List.set_cons_succ, List.set_cons_zero])
      | ((with_reducible refine held ?_); refine HQ_load_mid (by kernel_rfl) 29 _ rfl D (1) rfl [.int .u8 c.old.pr, .int .u32 c.old.s, .int .u32 c.old.d, .int .u16 c.old.sp, .int .u16 c.old.dp] _ (range_ext hOldK) Tryz.underlying29 rfl keySize ?_; simp only [Act.put, List.setIfInBounds_toArray, List.set_cons_succ, List.set_cons_zero])
      | ((with_reducible refine held ?_); refine HQ_load_mid (by kernel_rfl) 29 _ rfl D (12) rfl [.int .u8 c.new.pr, .int .u32 c.new.s, .int .u32 c.new.d, .int .u16 c.new.sp, .int .u16 c.new.dp] _ (range_ext hNewK) Tryz.underlying29 rfl keySize ?_; simp only [Act.put, List.setIfInBounds_toArray, List.set_cons_succ, List.set_cons_zero])
      | ((with_reducible refine held ?_); refine HQ_load_mid (by kernel_rfl) 29 _ rfl b2 (o2 + j * 11) rfl [.int .u8 y.pr, .int .u32 y.s, .int .u32 y.d, .int .u16 y.sp, .int .u16 y.dp] _ (range_ext hYk) Tryz.underlying29 rfl keySize ?_; simp only [Act.put, List.setIfInBounds_toArray, List.set_cons_succ, List.set_cons_zero])
      | ((with_reducible refine held ?_); refine HQ_load_mid (by kernel_rfl) 60 _ rfl b2 (o2 + j * 11) rfl y.cells _ (range_ext hY) Tryz.underlying60 rfl rlnSize ?_; simp only [Act.put, List.setIfInBounds_toArray, List.set_cons_succ, List.set_cons_zero])
      | ((with_reducible refine held ?_); refine HQ_build (by kernel_rfl) 60 _ rfl #[] (by kernel_rfl) _ (fun w => build_rzero w) ?_; simp only [Act.put, List.setIfInBounds_toArray, List.set_cons_succ, List.set_cons_zero])
      | go_big_quiet_step (first | (go_at_call 60; with_reducible exact (hkc _).ext) | (go_at_call 19; with_reducible exact (hrt _).ext)))
    refine wpQuiet_nil ?_
    rintro _ ⟨z5, rfl⟩
    go_wp2_with fail
    go_meet
    exact ⟨rfl, inferInstance⟩
  · skip
    cases olda
    · skip
      have hval : apOk (a.drop j) c = false := hap.trans (by cases newz <;> rfl)
      obtain rfl : OK = false := by rw [← hOK]; exact hval
      clear hval hOK
      refine wp_region_ext (by kernel_rfl) (by kernel_rfl) ?_
      (try dsimp only [List.append])
      repeat (first
        | go_big_quiet_skip
        | ((with_reducible refine held ?_); refine HQ_load_mid (by kernel_rfl) 89 _ rfl D (0) rfl c.cells _ (range_ext hZr) Tryz.underlying89 rfl rchSize ?_; simp only [Act.put, List.setIfInBounds_toArray, List.set_cons_succ, List.set_cons_zero])
        | ((with_reducible refine held ?_); refine HQ_load_mid (by kernel_rfl) 60 _ rfl D (1) rfl c.old.cells _ (range_ext hOld) Tryz.underlying60 rfl rlnSize ?_; simp only [Act.put, List.setIfInBounds_toArray, List.set_cons_succ, List.set_cons_zero])
        | ((with_reducible refine held ?_); refine HQ_load_mid (by kernel_rfl) 60 _ rfl D (12) rfl c.new.cells _ (range_ext hNew) Tryz.underlying60 rfl rlnSize ?_; simp only [Act.put, List.setIfInBounds_toArray, List.set_cons_succ, List.set_cons_zero])
        | ((with_reducible refine held ?_); refine HQ_load_mid (by kernel_rfl) 29 _ rfl D (1) rfl [.int .u8 c.old.pr, .int .u32 c.old.s, .int .u32 c.old.d, .int .u16 c.old.sp, .int .u16 c.old.dp] _ (range_ext hOldK) Tryz.underlying29 rfl keySize ?_; simp only [Act.put, List.setIfInBounds_toArray, List.set_cons_succ, List.set_cons_zero])
        | ((with_reducible refine held ?_); refine HQ_load_mid (by kernel_rfl) 29 _ rfl D (12) rfl [.int .u8 c.new.pr, .int .u32 c.new.s, .int .u32 c.new.d, .int .u16 c.new.sp, .int .u16 c.new.dp] _ (range_ext hNewK) Tryz.underlying29 rfl keySize ?_; simp only [Act.put, List.setIfInBounds_toArray, List.set_cons_succ, List.set_cons_zero])
        | ((with_reducible refine held ?_); refine HQ_load_mid (by kernel_rfl) 29 _ rfl b2 (o2 + j * 11) rfl [.int .u8 y.pr, .int .u32 y.s, .int .u32 y.d, .int .u16 y.sp, .int .u16 y.dp] _ (range_ext hYk) Tryz.underlying29 rfl keySize ?_; simp only [Act.put, List.setIfInBounds_toArray, List.set_cons_succ, List.set_cons_zero])
        | ((with_reducible refine held ?_); refine HQ_load_mid (by kernel_rfl) 60 _ rfl b2 (o2 + j * 11) rfl y.cells _ (range_ext hY) Tryz.underlying60 rfl rlnSize ?_; simp only [Act.put, List.setIfInBounds_toArray, List.set_cons_succ, List.set_cons_zero])
        | ((with_reducible refine held ?_); refine HQ_build (by kernel_rfl) 60 _ rfl #[] (by kernel_rfl) _ (fun w => build_rzero w) ?_; simp only [Act.put, List.setIfInBounds_toArray, List.set_cons_succ, List.set_cons_zero])
        | go_big_quiet_step (first | (go_at_call 60; with_reducible exact (hkc _).ext) | (go_at_call 19; with_reducible exact (hrt _).ext)))
      refine wpQuiet_nil ?_
      rintro _ ⟨z5, rfl⟩
      go_wp2_with fail
      go_meet
      exact ⟨rfl, inferInstance⟩
    · skip
      cases newz
      · skip
        have hval : apOk (a.drop j) c = false := hap
        obtain rfl : OK = false := by rw [← hOK]; exact hval
        clear hval hOK
        refine wp_region_ext (by kernel_rfl) (by kernel_rfl) ?_
        (try dsimp only [List.append])
        repeat (first
          | go_big_quiet_skip
          | ((with_reducible refine held ?_); refine HQ_load_mid (by kernel_rfl) 89 _ rfl D (0) rfl c.cells _ (range_ext hZr) Tryz.underlying89 rfl rchSize ?_; simp only [Act.put, List.setIfInBounds_toArray, List.set_cons_succ, List.set_cons_zero])
          | ((with_reducible refine held ?_); refine HQ_load_mid (by kernel_rfl) 60 _ rfl D (1) rfl c.old.cells _ (range_ext hOld) Tryz.underlying60 rfl rlnSize ?_; simp only [Act.put, List.setIfInBounds_toArray, List.set_cons_succ, List.set_cons_zero])
          | ((with_reducible refine held ?_); refine HQ_load_mid (by kernel_rfl) 60 _ rfl D (12) rfl c.new.cells _ (range_ext hNew) Tryz.underlying60 rfl rlnSize ?_; simp only [Act.put, List.setIfInBounds_toArray, List.set_cons_succ, List.set_cons_zero])
          | ((with_reducible refine held ?_); refine HQ_load_mid (by kernel_rfl) 29 _ rfl D (1) rfl [.int .u8 c.old.pr, .int .u32 c.old.s, .int .u32 c.old.d, .int .u16 c.old.sp, .int .u16 c.old.dp] _ (range_ext hOldK) Tryz.underlying29 rfl keySize ?_; simp only [Act.put, List.setIfInBounds_toArray, List.set_cons_succ, List.set_cons_zero])
          | ((with_reducible refine held ?_); refine HQ_load_mid (by kernel_rfl) 29 _ rfl D (12) rfl [.int .u8 c.new.pr, .int .u32 c.new.s, .int .u32 c.new.d, .int .u16 c.new.sp, .int .u16 c.new.dp] _ (range_ext hNewK) Tryz.underlying29 rfl keySize ?_; simp only [Act.put, List.setIfInBounds_toArray, List.set_cons_succ, List.set_cons_zero])
          | ((with_reducible refine held ?_); refine HQ_load_mid (by kernel_rfl) 29 _ rfl b2 (o2 + j * 11) rfl [.int .u8 y.pr, .int .u32 y.s, .int .u32 y.d, .int .u16 y.sp, .int .u16 y.dp] _ (range_ext hYk) Tryz.underlying29 rfl keySize ?_; simp only [Act.put, List.setIfInBounds_toArray, List.set_cons_succ, List.set_cons_zero])
          | ((with_reducible refine held ?_); refine HQ_load_mid (by kernel_rfl) 60 _ rfl b2 (o2 + j * 11) rfl y.cells _ (range_ext hY) Tryz.underlying60 rfl rlnSize ?_; simp only [Act.put, List.setIfInBounds_toArray, List.set_cons_succ, List.set_cons_zero])
          | ((with_reducible refine held ?_); refine HQ_build (by kernel_rfl) 60 _ rfl #[] (by kernel_rfl) _ (fun w => build_rzero w) ?_; simp only [Act.put, List.setIfInBounds_toArray, List.set_cons_succ, List.set_cons_zero])
          | go_big_quiet_step (first | (go_at_call 60; with_reducible exact (hkc _).ext) | (go_at_call 19; with_reducible exact (hrt _).ext)))
        refine wpQuiet_nil ?_
        rintro _ ⟨z5, rfl⟩
        go_wp2_with fail
        go_meet
        exact ⟨rfl, inferInstance⟩
      · skip
        have hval : apOk (a.drop j) c = true := hap
        obtain rfl : OK = true := by rw [← hOK]; exact hval
        clear hval hOK
        refine wp_region_ext (by kernel_rfl) (by kernel_rfl) ?_
        (try dsimp only [List.append])
        repeat (first
          | go_big_quiet_skip
          | ((with_reducible refine held ?_); refine HQ_load_mid (by kernel_rfl) 89 _ rfl D (0) rfl c.cells _ (range_ext hZr) Tryz.underlying89 rfl rchSize ?_; simp only [Act.put, List.setIfInBounds_toArray, List.set_cons_succ, List.set_cons_zero])
          | ((with_reducible refine held ?_); refine HQ_load_mid (by kernel_rfl) 60 _ rfl D (1) rfl c.old.cells _ (range_ext hOld) Tryz.underlying60 rfl rlnSize ?_; simp only [Act.put, List.setIfInBounds_toArray, List.set_cons_succ, List.set_cons_zero])
          | ((with_reducible refine held ?_); refine HQ_load_mid (by kernel_rfl) 60 _ rfl D (12) rfl c.new.cells _ (range_ext hNew) Tryz.underlying60 rfl rlnSize ?_; simp only [Act.put, List.setIfInBounds_toArray, List.set_cons_succ, List.set_cons_zero])
          | ((with_reducible refine held ?_); refine HQ_load_mid (by kernel_rfl) 29 _ rfl D (1) rfl [.int .u8 c.old.pr, .int .u32 c.old.s, .int .u32 c.old.d, .int .u16 c.old.sp, .int .u16 c.old.dp] _ (range_ext hOldK) Tryz.underlying29 rfl keySize ?_; simp only [Act.put, List.setIfInBounds_toArray, List.set_cons_succ, List.set_cons_zero])
          | ((with_reducible refine held ?_); refine HQ_load_mid (by kernel_rfl) 29 _ rfl D (12) rfl [.int .u8 c.new.pr, .int .u32 c.new.s, .int .u32 c.new.d, .int .u16 c.new.sp, .int .u16 c.new.dp] _ (range_ext hNewK) Tryz.underlying29 rfl keySize ?_; simp only [Act.put, List.setIfInBounds_toArray, List.set_cons_succ, List.set_cons_zero])
          | ((with_reducible refine held ?_); refine HQ_load_mid (by kernel_rfl) 29 _ rfl b2 (o2 + j * 11) rfl [.int .u8 y.pr, .int .u32 y.s, .int .u32 y.d, .int .u16 y.sp, .int .u16 y.dp] _ (range_ext hYk) Tryz.underlying29 rfl keySize ?_; simp only [Act.put, List.setIfInBounds_toArray, List.set_cons_succ, List.set_cons_zero])
          | ((with_reducible refine held ?_); refine HQ_load_mid (by kernel_rfl) 60 _ rfl b2 (o2 + j * 11) rfl y.cells _ (range_ext hY) Tryz.underlying60 rfl rlnSize ?_; simp only [Act.put, List.setIfInBounds_toArray, List.set_cons_succ, List.set_cons_zero])
          | ((with_reducible refine held ?_); refine HQ_build (by kernel_rfl) 60 _ rfl #[] (by kernel_rfl) _ (fun w => build_rzero w) ?_; simp only [Act.put, List.setIfInBounds_toArray, List.set_cons_succ, List.set_cons_zero])
          | go_big_quiet_step (first | (go_at_call 60; with_reducible exact (hkc _).ext) | (go_at_call 19; with_reducible exact (hrt _).ext)))
        refine wpQuiet_nil ?_
        rintro _ ⟨z5, rfl⟩
        go_wp2_with fail
        go_meet
        exact ⟨rfl, inferInstance⟩
set_option maxHeartbeats 64000000 in
set_option maxRecDepth 100000 in
theorem rapKB3 : rapRB.2.2.1 := by
  unfold rapRB
  intro a l base0 w F cap capa N ll hle NA la hlea HN HNA Hba Hbl i0 Hi Hy0 Hy1 Hy2 HF i0_ z1 i1_ i2_ i3_ u4 u5 i4_ u9 u10 i5_ i6_ i7_ i8_ i9_ i10_ i11_ i12_ i13_ i14_ i15_ i16_ i17_ i18_ i19_ i20_ i21_ i22_ i23_ i24_ i25_ i26_ i27_ i28_ i29_ i30_ i31_
  intro i32_ i33_ i34_ i35_ i36_ i37_ u47 i38_ i39_ i40_ i41_ i42_ i43_ i44_ i45_ i46_ i47_ i48_ i49_ i50_ i51_ i52_ i53_ i54_ i55_ i56_ i57_ i58_ i59_ i60_ i61_ i62_ i63_ i64_ i65_ i66_ i67_ i68_ i69_ i70_ i71_ i72_ i73_ i74_ i75_ i76_ i77_ i78_ i79_ i80_ i81_ i82_ i83_ i84_ i85_ i86_ i87_ i88_ i89_ i90_
  intro i91_ i92_ i93_ i94_ i95_ i96_ i97_ i98_ i99_ i100_ i101_ i102_ i103_ i104_ i105_ i106_ i107_ i108_ i109_ i110_ i111_ i112_ i113_ i114_ i115_ i116_ i117_ i118_ i119_ i120_ i121_ i122_ i123_ i124_ i125_ i126_ i127_ i128_ i129_ i130_ i131_ i132_ i133_ i134_ i135_ i136_ i137_ i138_ i139_ i140_ i141_ i142_ i143_ i144_ i145_ i146_ i147_ i148_ i149_ i150_
  intro i151_ i152_ i153_ i154_ i155_ i156_ i157_ i158_ i159_ i160_ i161_ k j0 M0 hk i162_ hlt hlt' k0 c b1 o1 Hc hb1 cb1 cb2 Hx i163_ D Z uZ i164_ i165_ i166_ hkc wc u14 u15 u16 u17 u18 u19 u20 u21 u22 u23 u24 u25 u26 u27 u28 u29 u30 u31 u32 u33 u34 u35 u36 u37
  intro u38 u39 u40 u41 u42 u43 u44 u45 u46 i167_ i168_ i169_ i170_ i171_ i172_ i173_ i174_ i175_ i176_ i177_ i178_ i179_ i180_ i181_ i182_ i183_ i184_ i185_ i186_ i187_ i188_ i189_ i190_ u72 u73 u74 u75 u76 u77 u78 u79 u80 u81 u82 u83 u84 u85 u86 u87 u88 u89 u90 u91 u92 u93 u94 u95 u96 u97 u98
  intro u99 u100 u101 u102 u103 u104 u105 u106 u107 u108 u109 u110 u111 u112 u113 u114 u115 u116 u117 u118 u119 u120 u121 u122 u123 u124 u125 u126 u127 u128 u129 u130 u131 u132 u133 u134 u135 u136 u137 u138 u139 u140 u141 u142 u143 u144 u145 u146 u147 u148 u149 u150 u151 u152 u153 u154 u155 u156 u157 u158
  intro u159 u160 u161 u162 u163 u164 u165 u166 u167 u168 u169 u170 u171 hu3 i191_ i192_ i193_ hDc hk123 i194_ wr u6 u48 u49 u50 u51 u52 u53 u54 u55 u56 u57 u58 u59 u60 u61 u62 u63 u64 u65 u66 u67 u68 u69 u70 u71 j M hj HT hMl hu i195_ i196_ hja hja' jj0 y b2 o2
  intro HCA Hnil Hsom i197_ i198_ hb2 i199_ C Hy HC i200_ i201_ i202_ hC0 HTW HDH z3 there hthere hthU z4 i203_ i204_ i205_ i206_ W9 uW9 Hown hDr hY i207_ hZr c0w this hYk OK HAP hOK i0_ i1_ i2_ i3_ hOld hNew hOldK hNewK hkind
  have c0 : W9.cell? ⟨D, 0, none⟩ = some (.int .u8 3) := by rw [← hkind]; exact c0w
  obtain ⟨olda, holda⟩ : ∃ b, decide (c.old = y) = b := ⟨_, rfl⟩
  obtain ⟨newr, hnewr⟩ : ∃ b, c.new.right = b := ⟨_, rfl⟩
  obtain ⟨keq, hkeq⟩ : ∃ b, keyB c.new c.old = b := ⟨_, rfl⟩
  obtain ⟨nw, hnw⟩ : ∃ b, decide (c.new = c.old) = b := ⟨_, rfl⟩
  have hrt : ∀ W, Gives Tryz.prog 19 #[.agg c.new.cells.toArray] W (.bool newr) := fun W => (rright38_any c.new W cb2).cast (by rw [hnewr])
  have hap : apOk (a.drop j) c = (there && (olda && (newr && (keq && !nw)))) := by rw [HDH.out]; rw [apOk_3h hkind, hthere, holda, hnewr, hkeq, hnw]
  unfold keyB at hkeq
  cases there
  · skip
    have hval : apOk (a.drop j) c = false := hap.trans (by cases olda <;> cases newr <;> cases keq <;> cases nw <;> rfl)
    obtain rfl : OK = false := by rw [← hOK]; exact hval
    clear hval hOK
    refine wp_region_ext (by kernel_rfl) (by kernel_rfl) ?_
    (try dsimp only [List.append])
    repeat (first
      | go_big_quiet_skip
      | ((with_reducible refine held ?_); refine HQ_load_mid (by kernel_rfl) 89 _ rfl D (0) rfl c.cells _ (range_ext hZr) Tryz.underlying89 rfl rchSize ?_; simp only [Act.put, List.setIfInBounds_toArray, List.set_cons_succ, List.set_cons_zero])
      | ((with_reducible refine held ?_); refine HQ_load_mid (by kernel_rfl) 60 _ rfl D (1) rfl c.old.cells _ (range_ext hOld) Tryz.underlying60 rfl rlnSize ?_; simp only [Act.put, List.setIfInBounds_toArray, List.set_cons_succ, List.set_cons_zero])
      | ((with_reducible refine held ?_); refine HQ_load_mid (by kernel_rfl) 60 _ rfl D (12) rfl c.new.cells _ (range_ext hNew) Tryz.underlying60 rfl rlnSize ?_; simp only [Act.put, List.setIfInBounds_toArray, List.set_cons_succ, List.set_cons_zero])
      | ((with_reducible refine held ?_); refine HQ_load_mid (by kernel_rfl) 29 _ rfl D (1) rfl [.int .u8 c.old.pr, .int .u32 c.old.s, .int .u32 c.old.d, .int .u16 c.old.sp, .int .u16 c.old.dp] _ (range_ext hOldK) Tryz.underlying29 rfl keySize ?_; simp only [Act.put, List.setIfInBounds_toArray, List.set_cons_succ, List.set_cons_zero])
      | ((with_reducible refine held ?_); refine HQ_load_mid (by kernel_rfl) 29 _ rfl D (12) rfl [.int .u8 c.new.pr, .int .u32 c.new.s, .int .u32 c.new.d, .int .u16 c.new.sp, .int .u16 c.new.dp] _ (range_ext hNewK) Tryz.underlying29 rfl keySize ?_; simp only [Act.put, List.setIfInBounds_toArray, List.set_cons_succ, List.set_cons_zero])
      | ((with_reducible refine held ?_); refine HQ_load_mid (by kernel_rfl) 29 _ rfl b2 (o2 + j * 11) rfl [.int .u8 y.pr, .int .u32 y.s, .int .u32 y.d, .int .u16 y.sp, .int .u16 y.dp] _ (range_ext hYk) Tryz.underlying29 rfl keySize ?_; simp only [Act.put, List.setIfInBounds_toArray, List.set_cons_succ, List.set_cons_zero])
      | ((with_reducible refine held ?_); refine HQ_load_mid (by kernel_rfl) 60 _ rfl b2 (o2 + j * 11) rfl y.cells _ (range_ext hY) Tryz.underlying60 rfl rlnSize ?_; simp only [Act.put, List.setIfInBounds_toArray, List.set_cons_succ, List.set_cons_zero])
      | ((with_reducible refine held ?_); refine HQ_build (by kernel_rfl) 60 _ rfl #[] (by kernel_rfl) _ (fun w => build_rzero w) ?_; simp only [Act.put, List.setIfInBounds_toArray, List.set_cons_succ, List.set_cons_zero])
      | go_big_quiet_step (first | (go_at_call 60; with_reducible exact (hkc _).ext) | (go_at_call 19; with_reducible exact (hrt _).ext)))
    refine wpQuiet_nil ?_
    rintro _ ⟨z5, rfl⟩
    go_wp2_with fail
    go_meet
    exact ⟨rfl, inferInstance⟩
  · skip
    cases olda
    · skip
      have hval : apOk (a.drop j) c = false := hap.trans (by cases newr <;> cases keq <;> cases nw <;> rfl)
      obtain rfl : OK = false := by rw [← hOK]; exact hval
      clear hval hOK
      refine wp_region_ext (by kernel_rfl) (by kernel_rfl) ?_
      (try dsimp only [List.append])
      repeat (first
        | go_big_quiet_skip
        | ((with_reducible refine held ?_); refine HQ_load_mid (by kernel_rfl) 89 _ rfl D (0) rfl c.cells _ (range_ext hZr) Tryz.underlying89 rfl rchSize ?_; simp only [Act.put, List.setIfInBounds_toArray, List.set_cons_succ, List.set_cons_zero])
        | ((with_reducible refine held ?_); refine HQ_load_mid (by kernel_rfl) 60 _ rfl D (1) rfl c.old.cells _ (range_ext hOld) Tryz.underlying60 rfl rlnSize ?_; simp only [Act.put, List.setIfInBounds_toArray, List.set_cons_succ, List.set_cons_zero])
        | ((with_reducible refine held ?_); refine HQ_load_mid (by kernel_rfl) 60 _ rfl D (12) rfl c.new.cells _ (range_ext hNew) Tryz.underlying60 rfl rlnSize ?_; simp only [Act.put, List.setIfInBounds_toArray, List.set_cons_succ, List.set_cons_zero])
        | ((with_reducible refine held ?_); refine HQ_load_mid (by kernel_rfl) 29 _ rfl D (1) rfl [.int .u8 c.old.pr, .int .u32 c.old.s, .int .u32 c.old.d, .int .u16 c.old.sp, .int .u16 c.old.dp] _ (range_ext hOldK) Tryz.underlying29 rfl keySize ?_; simp only [Act.put, List.setIfInBounds_toArray, List.set_cons_succ, List.set_cons_zero])
        | ((with_reducible refine held ?_); refine HQ_load_mid (by kernel_rfl) 29 _ rfl D (12) rfl [.int .u8 c.new.pr, .int .u32 c.new.s, .int .u32 c.new.d, .int .u16 c.new.sp, .int .u16 c.new.dp] _ (range_ext hNewK) Tryz.underlying29 rfl keySize ?_; simp only [Act.put, List.setIfInBounds_toArray, List.set_cons_succ, List.set_cons_zero])
        | ((with_reducible refine held ?_); refine HQ_load_mid (by kernel_rfl) 29 _ rfl b2 (o2 + j * 11) rfl [.int .u8 y.pr, .int .u32 y.s, .int .u32 y.d, .int .u16 y.sp, .int .u16 y.dp] _ (range_ext hYk) Tryz.underlying29 rfl keySize ?_; simp only [Act.put, List.setIfInBounds_toArray, List.set_cons_succ, List.set_cons_zero])
        | ((with_reducible refine held ?_); refine HQ_load_mid (by kernel_rfl) 60 _ rfl b2 (o2 + j * 11) rfl y.cells _ (range_ext hY) Tryz.underlying60 rfl rlnSize ?_; simp only [Act.put, List.setIfInBounds_toArray, List.set_cons_succ, List.set_cons_zero])
        | ((with_reducible refine held ?_); refine HQ_build (by kernel_rfl) 60 _ rfl #[] (by kernel_rfl) _ (fun w => build_rzero w) ?_; simp only [Act.put, List.setIfInBounds_toArray, List.set_cons_succ, List.set_cons_zero])
        | go_big_quiet_step (first | (go_at_call 60; with_reducible exact (hkc _).ext) | (go_at_call 19; with_reducible exact (hrt _).ext)))
      refine wpQuiet_nil ?_
      rintro _ ⟨z5, rfl⟩
      go_wp2_with fail
      go_meet
      exact ⟨rfl, inferInstance⟩
    · skip
      cases newr
      · skip
        have hval : apOk (a.drop j) c = false := hap.trans (by cases keq <;> cases nw <;> rfl)
        obtain rfl : OK = false := by rw [← hOK]; exact hval
        clear hval hOK
        refine wp_region_ext (by kernel_rfl) (by kernel_rfl) ?_
        (try dsimp only [List.append])
        repeat (first
          | go_big_quiet_skip
          | ((with_reducible refine held ?_); refine HQ_load_mid (by kernel_rfl) 89 _ rfl D (0) rfl c.cells _ (range_ext hZr) Tryz.underlying89 rfl rchSize ?_; simp only [Act.put, List.setIfInBounds_toArray, List.set_cons_succ, List.set_cons_zero])
          | ((with_reducible refine held ?_); refine HQ_load_mid (by kernel_rfl) 60 _ rfl D (1) rfl c.old.cells _ (range_ext hOld) Tryz.underlying60 rfl rlnSize ?_; simp only [Act.put, List.setIfInBounds_toArray, List.set_cons_succ, List.set_cons_zero])
          | ((with_reducible refine held ?_); refine HQ_load_mid (by kernel_rfl) 60 _ rfl D (12) rfl c.new.cells _ (range_ext hNew) Tryz.underlying60 rfl rlnSize ?_; simp only [Act.put, List.setIfInBounds_toArray, List.set_cons_succ, List.set_cons_zero])
          | ((with_reducible refine held ?_); refine HQ_load_mid (by kernel_rfl) 29 _ rfl D (1) rfl [.int .u8 c.old.pr, .int .u32 c.old.s, .int .u32 c.old.d, .int .u16 c.old.sp, .int .u16 c.old.dp] _ (range_ext hOldK) Tryz.underlying29 rfl keySize ?_; simp only [Act.put, List.setIfInBounds_toArray, List.set_cons_succ, List.set_cons_zero])
          | ((with_reducible refine held ?_); refine HQ_load_mid (by kernel_rfl) 29 _ rfl D (12) rfl [.int .u8 c.new.pr, .int .u32 c.new.s, .int .u32 c.new.d, .int .u16 c.new.sp, .int .u16 c.new.dp] _ (range_ext hNewK) Tryz.underlying29 rfl keySize ?_; simp only [Act.put, List.setIfInBounds_toArray, List.set_cons_succ, List.set_cons_zero])
          | ((with_reducible refine held ?_); refine HQ_load_mid (by kernel_rfl) 29 _ rfl b2 (o2 + j * 11) rfl [.int .u8 y.pr, .int .u32 y.s, .int .u32 y.d, .int .u16 y.sp, .int .u16 y.dp] _ (range_ext hYk) Tryz.underlying29 rfl keySize ?_; simp only [Act.put, List.setIfInBounds_toArray, List.set_cons_succ, List.set_cons_zero])
          | ((with_reducible refine held ?_); refine HQ_load_mid (by kernel_rfl) 60 _ rfl b2 (o2 + j * 11) rfl y.cells _ (range_ext hY) Tryz.underlying60 rfl rlnSize ?_; simp only [Act.put, List.setIfInBounds_toArray, List.set_cons_succ, List.set_cons_zero])
          | ((with_reducible refine held ?_); refine HQ_build (by kernel_rfl) 60 _ rfl #[] (by kernel_rfl) _ (fun w => build_rzero w) ?_; simp only [Act.put, List.setIfInBounds_toArray, List.set_cons_succ, List.set_cons_zero])
          | go_big_quiet_step (first | (go_at_call 60; with_reducible exact (hkc _).ext) | (go_at_call 19; with_reducible exact (hrt _).ext)))
        refine wpQuiet_nil ?_
        rintro _ ⟨z5, rfl⟩
        go_wp2_with fail
        go_meet
        exact ⟨rfl, inferInstance⟩
      · skip
        cases keq
        · skip
          have hval : apOk (a.drop j) c = false := hap.trans (by cases nw <;> rfl)
          obtain rfl : OK = false := by rw [← hOK]; exact hval
          clear hval hOK
          refine wp_region_ext (by kernel_rfl) (by kernel_rfl) ?_
          (try dsimp only [List.append])
          repeat (first
            | go_big_quiet_skip
            | ((with_reducible refine held ?_); refine HQ_load_mid (by kernel_rfl) 89 _ rfl D (0) rfl c.cells _ (range_ext hZr) Tryz.underlying89 rfl rchSize ?_; simp only [Act.put, List.setIfInBounds_toArray, List.set_cons_succ, List.set_cons_zero])
            | ((with_reducible refine held ?_); refine HQ_load_mid (by kernel_rfl) 60 _ rfl D (1) rfl c.old.cells _ (range_ext hOld) Tryz.underlying60 rfl rlnSize ?_; simp only [Act.put, List.setIfInBounds_toArray, List.set_cons_succ, List.set_cons_zero])
            | ((with_reducible refine held ?_); refine HQ_load_mid (by kernel_rfl) 60 _ rfl D (12) rfl c.new.cells _ (range_ext hNew) Tryz.underlying60 rfl rlnSize ?_; simp only [Act.put, List.setIfInBounds_toArray, List.set_cons_succ, List.set_cons_zero])
            | ((with_reducible refine held ?_); refine HQ_load_mid (by kernel_rfl) 29 _ rfl D (1) rfl [.int .u8 c.old.pr, .int .u32 c.old.s, .int .u32 c.old.d, .int .u16 c.old.sp, .int .u16 c.old.dp] _ (range_ext hOldK) Tryz.underlying29 rfl keySize ?_; simp only [Act.put, List.setIfInBounds_toArray, List.set_cons_succ, List.set_cons_zero])
            | ((with_reducible refine held ?_); refine HQ_load_mid (by kernel_rfl) 29 _ rfl D (12) rfl [.int .u8 c.new.pr, .int .u32 c.new.s, .int .u32 c.new.d, .int .u16 c.new.sp, .int .u16 c.new.dp] _ (range_ext hNewK) Tryz.underlying29 rfl keySize ?_; simp only [Act.put, List.setIfInBounds_toArray, List.set_cons_succ, List.set_cons_zero])
            | ((with_reducible refine held ?_); refine HQ_load_mid (by kernel_rfl) 29 _ rfl b2 (o2 + j * 11) rfl [.int .u8 y.pr, .int .u32 y.s, .int .u32 y.d, .int .u16 y.sp, .int .u16 y.dp] _ (range_ext hYk) Tryz.underlying29 rfl keySize ?_; simp only [Act.put, List.setIfInBounds_toArray, List.set_cons_succ, List.set_cons_zero])
            | ((with_reducible refine held ?_); refine HQ_load_mid (by kernel_rfl) 60 _ rfl b2 (o2 + j * 11) rfl y.cells _ (range_ext hY) Tryz.underlying60 rfl rlnSize ?_; simp only [Act.put, List.setIfInBounds_toArray, List.set_cons_succ, List.set_cons_zero])
            | ((with_reducible refine held ?_); refine HQ_build (by kernel_rfl) 60 _ rfl #[] (by kernel_rfl) _ (fun w => build_rzero w) ?_; simp only [Act.put, List.setIfInBounds_toArray, List.set_cons_succ, List.set_cons_zero])
            | go_big_quiet_step (first | (go_at_call 60; with_reducible exact (hkc _).ext) | (go_at_call 19; with_reducible exact (hrt _).ext)))
          refine wpQuiet_nil ?_
          rintro _ ⟨z5, rfl⟩
          go_wp2_with fail
          go_meet
          exact ⟨rfl, inferInstance⟩
        · skip
          cases nw
          · skip
            have hval : apOk (a.drop j) c = true := hap
            obtain rfl : OK = true := by rw [← hOK]; exact hval
            clear hval hOK
            refine wp_region_ext (by kernel_rfl) (by kernel_rfl) ?_
            (try dsimp only [List.append])
            repeat (first
              | go_big_quiet_skip
              | ((with_reducible refine held ?_); refine HQ_load_mid (by kernel_rfl) 89 _ rfl D (0) rfl c.cells _ (range_ext hZr) Tryz.underlying89 rfl rchSize ?_; simp only [Act.put, List.setIfInBounds_toArray, List.set_cons_succ, List.set_cons_zero])
              | ((with_reducible refine held ?_); refine HQ_load_mid (by kernel_rfl) 60 _ rfl D (1) rfl c.old.cells _ (range_ext hOld) Tryz.underlying60 rfl rlnSize ?_; simp only [Act.put, List.setIfInBounds_toArray, List.set_cons_succ, List.set_cons_zero])
              | ((with_reducible refine held ?_); refine HQ_load_mid (by kernel_rfl) 60 _ rfl D (12) rfl c.new.cells _ (range_ext hNew) Tryz.underlying60 rfl rlnSize ?_; simp only [Act.put, List.setIfInBounds_toArray, List.set_cons_succ, List.set_cons_zero])
              | ((with_reducible refine held ?_); refine HQ_load_mid (by kernel_rfl) 29 _ rfl D (1) rfl [.int .u8 c.old.pr, .int .u32 c.old.s, .int .u32 c.old.d, .int .u16 c.old.sp, .int .u16 c.old.dp] _ (range_ext hOldK) Tryz.underlying29 rfl keySize ?_; simp only [Act.put, List.setIfInBounds_toArray, List.set_cons_succ, List.set_cons_zero])
              | ((with_reducible refine held ?_); refine HQ_load_mid (by kernel_rfl) 29 _ rfl D (12) rfl [.int .u8 c.new.pr, .int .u32 c.new.s, .int .u32 c.new.d, .int .u16 c.new.sp, .int .u16 c.new.dp] _ (range_ext hNewK) Tryz.underlying29 rfl keySize ?_; simp only [Act.put, List.setIfInBounds_toArray, List.set_cons_succ, List.set_cons_zero])
              | ((with_reducible refine held ?_); refine HQ_load_mid (by kernel_rfl) 29 _ rfl b2 (o2 + j * 11) rfl [.int .u8 y.pr, .int .u32 y.s, .int .u32 y.d, .int .u16 y.sp, .int .u16 y.dp] _ (range_ext hYk) Tryz.underlying29 rfl keySize ?_; simp only [Act.put, List.setIfInBounds_toArray, List.set_cons_succ, List.set_cons_zero])
              | ((with_reducible refine held ?_); refine HQ_load_mid (by kernel_rfl) 60 _ rfl b2 (o2 + j * 11) rfl y.cells _ (range_ext hY) Tryz.underlying60 rfl rlnSize ?_; simp only [Act.put, List.setIfInBounds_toArray, List.set_cons_succ, List.set_cons_zero])
              | ((with_reducible refine held ?_); refine HQ_build (by kernel_rfl) 60 _ rfl #[] (by kernel_rfl) _ (fun w => build_rzero w) ?_; simp only [Act.put, List.setIfInBounds_toArray, List.set_cons_succ, List.set_cons_zero])
              | go_big_quiet_step (first | (go_at_call 60; with_reducible exact (hkc _).ext) | (go_at_call 19; with_reducible exact (hrt _).ext)))
            refine wpQuiet_nil ?_
            rintro _ ⟨z5, rfl⟩
            go_wp2_with fail
            go_meet
            exact ⟨rfl, inferInstance⟩
          · skip
            have hval : apOk (a.drop j) c = false := hap
            obtain rfl : OK = false := by rw [← hOK]; exact hval
            clear hval hOK
            refine wp_region_ext (by kernel_rfl) (by kernel_rfl) ?_
            (try dsimp only [List.append])
            repeat (first
              | go_big_quiet_skip
              | ((with_reducible refine held ?_); refine HQ_load_mid (by kernel_rfl) 89 _ rfl D (0) rfl c.cells _ (range_ext hZr) Tryz.underlying89 rfl rchSize ?_; simp only [Act.put, List.setIfInBounds_toArray, List.set_cons_succ, List.set_cons_zero])
              | ((with_reducible refine held ?_); refine HQ_load_mid (by kernel_rfl) 60 _ rfl D (1) rfl c.old.cells _ (range_ext hOld) Tryz.underlying60 rfl rlnSize ?_; simp only [Act.put, List.setIfInBounds_toArray, List.set_cons_succ, List.set_cons_zero])
              | ((with_reducible refine held ?_); refine HQ_load_mid (by kernel_rfl) 60 _ rfl D (12) rfl c.new.cells _ (range_ext hNew) Tryz.underlying60 rfl rlnSize ?_; simp only [Act.put, List.setIfInBounds_toArray, List.set_cons_succ, List.set_cons_zero])
              | ((with_reducible refine held ?_); refine HQ_load_mid (by kernel_rfl) 29 _ rfl D (1) rfl [.int .u8 c.old.pr, .int .u32 c.old.s, .int .u32 c.old.d, .int .u16 c.old.sp, .int .u16 c.old.dp] _ (range_ext hOldK) Tryz.underlying29 rfl keySize ?_; simp only [Act.put, List.setIfInBounds_toArray, List.set_cons_succ, List.set_cons_zero])
              | ((with_reducible refine held ?_); refine HQ_load_mid (by kernel_rfl) 29 _ rfl D (12) rfl [.int .u8 c.new.pr, .int .u32 c.new.s, .int .u32 c.new.d, .int .u16 c.new.sp, .int .u16 c.new.dp] _ (range_ext hNewK) Tryz.underlying29 rfl keySize ?_; simp only [Act.put, List.setIfInBounds_toArray, List.set_cons_succ, List.set_cons_zero])
              | ((with_reducible refine held ?_); refine HQ_load_mid (by kernel_rfl) 29 _ rfl b2 (o2 + j * 11) rfl [.int .u8 y.pr, .int .u32 y.s, .int .u32 y.d, .int .u16 y.sp, .int .u16 y.dp] _ (range_ext hYk) Tryz.underlying29 rfl keySize ?_; simp only [Act.put, List.setIfInBounds_toArray, List.set_cons_succ, List.set_cons_zero])
              | ((with_reducible refine held ?_); refine HQ_load_mid (by kernel_rfl) 60 _ rfl b2 (o2 + j * 11) rfl y.cells _ (range_ext hY) Tryz.underlying60 rfl rlnSize ?_; simp only [Act.put, List.setIfInBounds_toArray, List.set_cons_succ, List.set_cons_zero])
              | ((with_reducible refine held ?_); refine HQ_build (by kernel_rfl) 60 _ rfl #[] (by kernel_rfl) _ (fun w => build_rzero w) ?_; simp only [Act.put, List.setIfInBounds_toArray, List.set_cons_succ, List.set_cons_zero])
              | go_big_quiet_step (first | (go_at_call 60; with_reducible exact (hkc _).ext) | (go_at_call 19; with_reducible exact (hrt _).ext)))
            refine wpQuiet_nil ?_
            rintro _ ⟨z5, rfl⟩
            go_wp2_with fail
            go_meet
            exact ⟨rfl, inferInstance⟩
theorem rapRest1 : rapPart.1 := rapRB.2.2.2 rapKB1 rapKB2 rapKB3
end Go.Proofs.YtlbbepgfjigjpaaGreatDoor
