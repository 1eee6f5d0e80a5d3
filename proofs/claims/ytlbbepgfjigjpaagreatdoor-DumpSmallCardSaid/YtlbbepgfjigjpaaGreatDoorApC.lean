/- The reference's Apply: behind the long test (3); joined. -/
import Derived.Test.YtlbbepgfjigjpaaGreatDoorApB
set_option linter.unusedSimpArgs false
set_option linter.unusedVariables false
namespace Go.Proofs.YtlbbepgfjigjpaaGreatDoor
open Go.RowKit Go.Ab
attribute [local go_sem high] eq_rln eq_key wrapI wrapK
set_option maxHeartbeats 64000000 in
set_option maxRecDepth 100000 in
noncomputable def rapRC : PSigma (fun R1 : Prop => PSigma (fun R2 : Prop => PSigma (fun R3 : Prop => R1 → R2 → R3 → rapPart.2.1))) := by
  apply PSigma.mk
  case snd =>
    apply PSigma.mk
    case snd =>
      apply PSigma.mk
      case snd =>
        intro hR1 hR2 hR3
        unfold rapPart
        intro a l base0 w F cap pa capa N ll hle HN HCA Hba Hbl Hsom i0 Hi Hy0 Hy1 Hy2 HF i0_ z1 i1_ i2_ i3_ u4 u5 i4_ u9 u10 i5_ i6_ i7_ i8_ i9_ i10_ i11_ i12_ i13_ i14_ i15_ i16_ i17_ i18_ i19_ i20_ i21_ i22_ i23_ i24_ i25_ i26_ i27_ i28_ i29_ i30_ i31_ i32_
        intro i33_ i34_ i35_ i36_ i37_ u47 i38_ i39_ i40_ i41_ i42_ i43_ i44_ i45_ i46_ i47_ i48_ i49_ i50_ i51_ i52_ i53_ i54_ i55_ i56_ i57_ i58_ i59_ i60_ i61_ i62_ i63_ i64_ i65_ i66_ i67_ i68_ i69_ i70_ i71_ i72_ i73_ i74_ i75_ i76_ i77_ i78_ i79_ i80_ i81_ i82_ i83_ i84_ i85_ i86_ i87_ i88_ i89_ i90_ i91_
        intro i92_ i93_ i94_ i95_ i96_ i97_ i98_ i99_ i100_ i101_ i102_ i103_ i104_ i105_ i106_ i107_ i108_ i109_ i110_ i111_ i112_ i113_ i114_ i115_ i116_ i117_ i118_ i119_ i120_ i121_ i122_ i123_ i124_ i125_ i126_ i127_ i128_ i129_ i130_ i131_ i132_ i133_ i134_ i135_ i136_ i137_ i138_ i139_ i140_ i141_ i142_ i143_ i144_ i145_ i146_ i147_ i148_ i149_ i150_ i151_
        intro i152_ i153_ i154_ i155_ i156_ i157_ i158_ i159_ i160_ i161_ k j0 M0 hk i162_ hlt hlt' k0 c b1 o1 Hc hb1 cb1 cb2 Hx i163_ D Z uZ i164_ i165_ i166_ hkc wc u14 u15 u16 u17 u18 u19 u20 u21 u22 u23 u24 u25 u26 u27 u28 u29 u30 u31 u32 u33 u34 u35 u36 u37 u38
        intro u39 u40 u41 u42 u43 u44 u45 u46 i167_ i168_ i169_ i170_ i171_ i172_ i173_ i174_ i175_ i176_ i177_ i178_ i179_ i180_ i181_ i182_ i183_ i184_ i185_ i186_ i187_ i188_ i189_ i190_ u72 u73 u74 u75 u76 u77 u78 u79 u80 u81 u82 u83 u84 u85 u86 u87 u88 u89 u90 u91 u92 u93 u94 u95 u96 u97 u98 u99
        intro u100 u101 u102 u103 u104 u105 u106 u107 u108 u109 u110 u111 u112 u113 u114 u115 u116 u117 u118 u119 u120 u121 u122 u123 u124 u125 u126 u127 u128 u129 u130 u131 u132 u133 u134 u135 u136 u137 u138 u139 u140 u141 u142 u143 u144 u145 u146 u147 u148 u149 u150 u151 u152 u153 u154 u155 u156 u157 u158 u159
        intro u160 u161 u162 u163 u164 u165 u166 u167 u168 u169 u170 u171 hu3 i191_ i192_ i193_ hDc hk123 hk3 i194_ wr u6 u48 u49 u50 u51 u52 u53 u54 u55 u56 u57 u58 u59 u60 u61 u62 u63 u64 u65 u66 u67 u68 u69 u70 u71 j M HT hMl hu i195_ i196_ la hlea HNA Hnil i197_ i198_ hj
        intro hja hjn HDN HTW i199_ i200_ i201_ z3 z4 i202_ i203_ i204_ i205_ W9 uW9 Hown hDr i206_ hZr c0w this OK HAP hOK
        go_cut [158] (fun v wx => v = .bool (!OK) ∧ UpI W9 wx)
        case first =>
          have hOld := ch_old hZr
          have hNew := ch_new hZr
          rw [Nat.zero_add] at hOld hNew
          have hOldK := range_key hOld
          have hNewK := range_key hNew
          rcases hk3 with hkind | hkind | hkind
          · skip
            rename_i i0_ i1_ i2_ i3_
            revert u59 u60 u61 u62 u63 u64 u65 u66 u67 u68 u69 u70 u71 j M HT hMl hu i195_ i196_ la hlea HNA Hnil i197_ i198_ hj hja hjn HDN HTW i199_ i200_ i201_ z3 z4 i202_ i203_ i204_ i205_ W9 uW9 Hown hDr i206_ hZr c0w this OK HAP hOK i0_ i1_ i2_ i3_ hOld hNew hOldK hNewK hkind
            revert u132 u133 u134 u135 u136 u137 u138 u139 u140 u141 u142 u143 u144 u145 u146 u147 u148 u149 u150 u151 u152 u153 u154 u155 u156 u157 u158 u159 u160 u161 u162 u163 u164 u165 u166 u167 u168 u169 u170 u171 hu3 i191_ i192_ i193_ hDc hk123 i194_ wr u6 u48 u49 u50 u51 u52 u53 u54 u55 u56 u57 u58
            revert u72 u73 u74 u75 u76 u77 u78 u79 u80 u81 u82 u83 u84 u85 u86 u87 u88 u89 u90 u91 u92 u93 u94 u95 u96 u97 u98 u99 u100 u101 u102 u103 u104 u105 u106 u107 u108 u109 u110 u111 u112 u113 u114 u115 u116 u117 u118 u119 u120 u121 u122 u123 u124 u125 u126 u127 u128 u129 u130 u131
            revert i166_ hkc wc u14 u15 u16 u17 u18 u19 u20 u21 u22 u23 u24 u25 u26 u27 u28 u29 u30 u31 u32 u33 u34 u35 u36 u37 u38 u39 u40 u41 u42 u43 u44 u45 u46 i167_ i168_ i169_ i170_ i171_ i172_ i173_ i174_ i175_ i176_ i177_ i178_ i179_ i180_ i181_ i182_ i183_ i184_ i185_ i186_ i187_ i188_ i189_ i190_
            revert i124_ i125_ i126_ i127_ i128_ i129_ i130_ i131_ i132_ i133_ i134_ i135_ i136_ i137_ i138_ i139_ i140_ i141_ i142_ i143_ i144_ i145_ i146_ i147_ i148_ i149_ i150_ i151_ i152_ i153_ i154_ i155_ i156_ i157_ i158_ i159_ i160_ i161_ k j0 M0 hk i162_ hlt hlt' k0 c b1 o1 Hc hb1 cb1 cb2 Hx i163_ D Z uZ i164_ i165_
            revert i64_ i65_ i66_ i67_ i68_ i69_ i70_ i71_ i72_ i73_ i74_ i75_ i76_ i77_ i78_ i79_ i80_ i81_ i82_ i83_ i84_ i85_ i86_ i87_ i88_ i89_ i90_ i91_ i92_ i93_ i94_ i95_ i96_ i97_ i98_ i99_ i100_ i101_ i102_ i103_ i104_ i105_ i106_ i107_ i108_ i109_ i110_ i111_ i112_ i113_ i114_ i115_ i116_ i117_ i118_ i119_ i120_ i121_ i122_ i123_
            revert i5_ i6_ i7_ i8_ i9_ i10_ i11_ i12_ i13_ i14_ i15_ i16_ i17_ i18_ i19_ i20_ i21_ i22_ i23_ i24_ i25_ i26_ i27_ i28_ i29_ i30_ i31_ i32_ i33_ i34_ i35_ i36_ i37_ u47 i38_ i39_ i40_ i41_ i42_ i43_ i44_ i45_ i46_ i47_ i48_ i49_ i50_ i51_ i52_ i53_ i54_ i55_ i56_ i57_ i58_ i59_ i60_ i61_ i62_ i63_
            revert a l base0 w F cap pa capa N ll hle HN HCA Hba Hbl Hsom i0 Hi Hy0 Hy1 Hy2 HF i0_ z1 i1_ i2_ i3_ u4 u5 i4_ u9 u10
            exact hR1
          · skip
            rename_i i0_ i1_ i2_ i3_
            revert u59 u60 u61 u62 u63 u64 u65 u66 u67 u68 u69 u70 u71 j M HT hMl hu i195_ i196_ la hlea HNA Hnil i197_ i198_ hj hja hjn HDN HTW i199_ i200_ i201_ z3 z4 i202_ i203_ i204_ i205_ W9 uW9 Hown hDr i206_ hZr c0w this OK HAP hOK i0_ i1_ i2_ i3_ hOld hNew hOldK hNewK hkind
            revert u132 u133 u134 u135 u136 u137 u138 u139 u140 u141 u142 u143 u144 u145 u146 u147 u148 u149 u150 u151 u152 u153 u154 u155 u156 u157 u158 u159 u160 u161 u162 u163 u164 u165 u166 u167 u168 u169 u170 u171 hu3 i191_ i192_ i193_ hDc hk123 i194_ wr u6 u48 u49 u50 u51 u52 u53 u54 u55 u56 u57 u58
            revert u72 u73 u74 u75 u76 u77 u78 u79 u80 u81 u82 u83 u84 u85 u86 u87 u88 u89 u90 u91 u92 u93 u94 u95 u96 u97 u98 u99 u100 u101 u102 u103 u104 u105 u106 u107 u108 u109 u110 u111 u112 u113 u114 u115 u116 u117 u118 u119 u120 u121 u122 u123 u124 u125 u126 u127 u128 u129 u130 u131
            revert i166_ hkc wc u14 u15 u16 u17 u18 u19 u20 u21 u22 u23 u24 u25 u26 u27 u28 u29 u30 u31 u32 u33 u34 u35 u36 u37 u38 u39 u40 u41 u42 u43 u44 u45 u46 i167_ i168_ i169_ i170_ i171_ i172_ i173_ i174_ i175_ i176_ i177_ i178_ i179_ i180_ i181_ i182_ i183_ i184_ i185_ i186_ i187_ i188_ i189_ i190_
            revert i124_ i125_ i126_ i127_ i128_ i129_ i130_ i131_ i132_ i133_ i134_ i135_ i136_ i137_ i138_ i139_ i140_ i141_ i142_ i143_ i144_ i145_ i146_ i147_ i148_ i149_ i150_ i151_ i152_ i153_ i154_ i155_ i156_ i157_ i158_ i159_ i160_ i161_ k j0 M0 hk i162_ hlt hlt' k0 c b1 o1 Hc hb1 cb1 cb2 Hx i163_ D Z uZ i164_ i165_
            revert i64_ i65_ i66_ i67_ i68_ i69_ i70_ i71_ i72_ i73_ i74_ i75_ i76_ i77_ i78_ i79_ i80_ i81_ i82_ i83_ i84_ i85_ i86_ i87_ i88_ i89_ i90_ i91_ i92_ i93_ i94_ i95_ i96_ i97_ i98_ i99_ i100_ i101_ i102_ i103_ i104_ i105_ i106_ i107_ i108_ i109_ i110_ i111_ i112_ i113_ i114_ i115_ i116_ i117_ i118_ i119_ i120_ i121_ i122_ i123_
            revert i5_ i6_ i7_ i8_ i9_ i10_ i11_ i12_ i13_ i14_ i15_ i16_ i17_ i18_ i19_ i20_ i21_ i22_ i23_ i24_ i25_ i26_ i27_ i28_ i29_ i30_ i31_ i32_ i33_ i34_ i35_ i36_ i37_ u47 i38_ i39_ i40_ i41_ i42_ i43_ i44_ i45_ i46_ i47_ i48_ i49_ i50_ i51_ i52_ i53_ i54_ i55_ i56_ i57_ i58_ i59_ i60_ i61_ i62_ i63_
            revert a l base0 w F cap pa capa N ll hle HN HCA Hba Hbl Hsom i0 Hi Hy0 Hy1 Hy2 HF i0_ z1 i1_ i2_ i3_ u4 u5 i4_ u9 u10
            exact hR2
          · skip
            rename_i i0_ i1_ i2_ i3_
            revert u59 u60 u61 u62 u63 u64 u65 u66 u67 u68 u69 u70 u71 j M HT hMl hu i195_ i196_ la hlea HNA Hnil i197_ i198_ hj hja hjn HDN HTW i199_ i200_ i201_ z3 z4 i202_ i203_ i204_ i205_ W9 uW9 Hown hDr i206_ hZr c0w this OK HAP hOK i0_ i1_ i2_ i3_ hOld hNew hOldK hNewK hkind
            revert u132 u133 u134 u135 u136 u137 u138 u139 u140 u141 u142 u143 u144 u145 u146 u147 u148 u149 u150 u151 u152 u153 u154 u155 u156 u157 u158 u159 u160 u161 u162 u163 u164 u165 u166 u167 u168 u169 u170 u171 hu3 i191_ i192_ i193_ hDc hk123 i194_ wr u6 u48 u49 u50 u51 u52 u53 u54 u55 u56 u57 u58
            revert u72 u73 u74 u75 u76 u77 u78 u79 u80 u81 u82 u83 u84 u85 u86 u87 u88 u89 u90 u91 u92 u93 u94 u95 u96 u97 u98 u99 u100 u101 u102 u103 u104 u105 u106 u107 u108 u109 u110 u111 u112 u113 u114 u115 u116 u117 u118 u119 u120 u121 u122 u123 u124 u125 u126 u127 u128 u129 u130 u131
            revert i166_ hkc wc u14 u15 u16 u17 u18 u19 u20 u21 u22 u23 u24 u25 u26 u27 u28 u29 u30 u31 u32 u33 u34 u35 u36 u37 u38 u39 u40 u41 u42 u43 u44 u45 u46 i167_ i168_ i169_ i170_ i171_ i172_ i173_ i174_ i175_ i176_ i177_ i178_ i179_ i180_ i181_ i182_ i183_ i184_ i185_ i186_ i187_ i188_ i189_ i190_
            revert i124_ i125_ i126_ i127_ i128_ i129_ i130_ i131_ i132_ i133_ i134_ i135_ i136_ i137_ i138_ i139_ i140_ i141_ i142_ i143_ i144_ i145_ i146_ i147_ i148_ i149_ i150_ i151_ i152_ i153_ i154_ i155_ i156_ i157_ i158_ i159_ i160_ i161_ k j0 M0 hk i162_ hlt hlt' k0 c b1 o1 Hc hb1 cb1 cb2 Hx i163_ D Z uZ i164_ i165_
            revert i64_ i65_ i66_ i67_ i68_ i69_ i70_ i71_ i72_ i73_ i74_ i75_ i76_ i77_ i78_ i79_ i80_ i81_ i82_ i83_ i84_ i85_ i86_ i87_ i88_ i89_ i90_ i91_ i92_ i93_ i94_ i95_ i96_ i97_ i98_ i99_ i100_ i101_ i102_ i103_ i104_ i105_ i106_ i107_ i108_ i109_ i110_ i111_ i112_ i113_ i114_ i115_ i116_ i117_ i118_ i119_ i120_ i121_ i122_ i123_
            revert i5_ i6_ i7_ i8_ i9_ i10_ i11_ i12_ i13_ i14_ i15_ i16_ i17_ i18_ i19_ i20_ i21_ i22_ i23_ i24_ i25_ i26_ i27_ i28_ i29_ i30_ i31_ i32_ i33_ i34_ i35_ i36_ i37_ u47 i38_ i39_ i40_ i41_ i42_ i43_ i44_ i45_ i46_ i47_ i48_ i49_ i50_ i51_ i52_ i53_ i54_ i55_ i56_ i57_ i58_ i59_ i60_ i61_ i62_ i63_
            revert a l base0 w F cap pa capa N ll hle HN HCA Hba Hbl Hsom i0 Hi Hy0 Hy1 Hy2 HF i0_ z1 i1_ i2_ i3_ u4 u5 i4_ u9 u10
            exact hR3
        case rest =>
          obtain ⟨rfl, hu7⟩ := hcut
          haveI := hu7
          haveI : UpI w wc := ⟨(upI : Up w W9).trans hu7.up⟩
          cases OK
          case false =>
            have HE := Lib.hid (show F = none by rw [← HAP.out]; rfl)
            go_wp2_with fail
            go_ret2
            exact ⟨by rw [HE.out]; rfl, mkI⟩
          case true =>
            have HAQ := Lib.hid (show apFrom (some c) (M ++ (if c.kind = 2 then [] else [c.new])) (if 1 < c.kind then (a.drop j).drop 1 else a.drop j) (l.drop (k + 1)) = F by rw [← HAP.out]; rfl)
            have hZr2 : wc.rangeAt D 0 c.cells := fun t u ht => hu7.up.cell_some' (hZr t u ht)
            haveI : LtSize D wc := ⟨cell_lt (hZr2 0 _ rfl)⟩
            have hNewZ := ch_new hZr2
            rw [Nat.zero_add] at hNewZ
            have HownW := Lib.hid (owns_up Hown.out hu7.up)
            have HPv := Lib.hid (show prevOf l (k + 1) = some c by unfold prevOf; rw [if_neg (by omega), Nat.add_sub_cancel]; exact Hx.out)
            have hOKt := hOK
            clear Hown HAP hOK hZr HT HTW hDr
            have Hown := HownW
            clear HownW
            rcases hk3 with hkind | hkind | hkind
            · have c0 : wc.cell? ⟨D, 0, none⟩ = some (.int .u8 1) := by rw [← hkind]; exact hZr2 0 _ rfl
              have HNX := Lib.hid (show apFrom (prevOf l (k + 1)) (M ++ [c.new]) (a.drop (j)) (l.drop (k + 1)) = F by
                rw [HPv.out, ← HAQ.out, hkind]
                simp [List.drop_drop])
              have HLn := ap_len M.length j k j N hMl hj la hlt ll
              go_wp2_with (first
                | ((with_reducible refine held ?_); refine H_load_mid rfl 60 _ rfl D 12 rfl c.new.cells _ hNewZ Tryz.underlying60 rfl rlnSize ?_)
                | ((with_reducible refine held ?_); refine H_sliceRun rfl 75 1 _ rfl #[(0, .agg c.new.cells.toArray)] (by kernel_rfl) _ _ (slice_rline c.new _) ?_)
                | (at_builtin; (with_reducible refine held ?_); refine H_append_own rfl _ _ 75 rfl w.heap.size 60 i0 Ln.zero.val 11 40 Tryz.underlying75 Hi.out Hy0.out Hy1.out Hy2.out rfl (by decide) _ _ _ rfl (owns_up Hown.out (upI : Up wc _)) ⟨_, 0, none⟩ 1 1 c.new.cells rfl rfl ?c1 ?c2 ?c3 ?c4 ?c5 ?_))
              case c1 => intro t u ht; (first | exact ln_at wc c.new _ t u ht | (rw [lnBlk_one]; exact ln_at wc c.new _ t u ht) | (rw [List.getElem?_toArray]; exact ht) | simpa using ht)
              case c2 => exact fun u h => c.new.one u h
              case c3 => exact HLn.p1
              case c4 => exact HLn.p2
              case c5 => first | exact Nat.le_succ_of_le (upI : Up w wc).size | exact (upI : Up w _).size
              intro v' w1 hown' hgrow _
              have hu1 : Up w w1 := Up.grown (upI : Up w _) hgrow (owns_row Hown.out)
              have Hown' := Lib.hid hown'
              clear hown'
              go_wp2_with fail
              go_roundw
              case rel => exact ⟨k + 1, j, M ++ [c.new], Nat.succ_le_of_lt hlt, hj, by go_num, by go_num, HNX, by rw [List.length_append, List.length_singleton]; omega, Lib.hid (by rw [List.length_append, List.flatMap_append]; simpa using Hown'.out), hu1⟩
              case measure => simp [intOf]; omega
            · exfalso
              have := hOKt
              rw [HDN.out, apOk_2n hkind] at this
              cases this
            · exfalso
              have := hOKt
              rw [HDN.out, apOk_3n hkind] at this
              cases this

set_option maxHeartbeats 64000000 in
set_option maxRecDepth 100000 in
theorem rapKC1 : rapRC.1 := by
  unfold rapRC
  intro a l base0 w F cap pa capa N ll hle HN HCA Hba Hbl Hsom i0 Hi Hy0 Hy1 Hy2 HF i0_ z1 i1_ i2_ i3_ u4 u5 i4_ u9 u10 i5_ i6_ i7_ i8_ i9_ i10_ i11_ i12_ i13_ i14_ i15_ i16_ i17_ i18_ i19_ i20_ i21_ i22_ i23_ i24_ i25_ i26_ i27_ i28_ i29_ i30_ i31_ i32_
  intro i33_ i34_ i35_ i36_ i37_ u47 i38_ i39_ i40_ i41_ i42_ i43_ i44_ i45_ i46_ i47_ i48_ i49_ i50_ i51_ i52_ i53_ i54_ i55_ i56_ i57_ i58_ i59_ i60_ i61_ i62_ i63_ i64_ i65_ i66_ i67_ i68_ i69_ i70_ i71_ i72_ i73_ i74_ i75_ i76_ i77_ i78_ i79_ i80_ i81_ i82_ i83_ i84_ i85_ i86_ i87_ i88_ i89_ i90_ i91_
  intro i92_ i93_ i94_ i95_ i96_ i97_ i98_ i99_ i100_ i101_ i102_ i103_ i104_ i105_ i106_ i107_ i108_ i109_ i110_ i111_ i112_ i113_ i114_ i115_ i116_ i117_ i118_ i119_ i120_ i121_ i122_ i123_ i124_ i125_ i126_ i127_ i128_ i129_ i130_ i131_ i132_ i133_ i134_ i135_ i136_ i137_ i138_ i139_ i140_ i141_ i142_ i143_ i144_ i145_ i146_ i147_ i148_ i149_ i150_ i151_
  intro i152_ i153_ i154_ i155_ i156_ i157_ i158_ i159_ i160_ i161_ k j0 M0 hk i162_ hlt hlt' k0 c b1 o1 Hc hb1 cb1 cb2 Hx i163_ D Z uZ i164_ i165_ i166_ hkc wc u14 u15 u16 u17 u18 u19 u20 u21 u22 u23 u24 u25 u26 u27 u28 u29 u30 u31 u32 u33 u34 u35 u36 u37 u38
  intro u39 u40 u41 u42 u43 u44 u45 u46 i167_ i168_ i169_ i170_ i171_ i172_ i173_ i174_ i175_ i176_ i177_ i178_ i179_ i180_ i181_ i182_ i183_ i184_ i185_ i186_ i187_ i188_ i189_ i190_ u72 u73 u74 u75 u76 u77 u78 u79 u80 u81 u82 u83 u84 u85 u86 u87 u88 u89 u90 u91 u92 u93 u94 u95 u96 u97 u98 u99
  intro u100 u101 u102 u103 u104 u105 u106 u107 u108 u109 u110 u111 u112 u113 u114 u115 u116 u117 u118 u119 u120 u121 u122 u123 u124 u125 u126 u127 u128 u129 u130 u131 u132 u133 u134 u135 u136 u137 u138 u139 u140 u141 u142 u143 u144 u145 u146 u147 u148 u149 u150 u151 u152 u153 u154 u155 u156 u157 u158 u159
  intro u160 u161 u162 u163 u164 u165 u166 u167 u168 u169 u170 u171 hu3 i191_ i192_ i193_ hDc hk123 i194_ wr u6 u48 u49 u50 u51 u52 u53 u54 u55 u56 u57 u58 u59 u60 u61 u62 u63 u64 u65 u66 u67 u68 u69 u70 u71 j M HT hMl hu i195_ i196_ la hlea HNA Hnil i197_ i198_ hj hja
  intro hjn HDN HTW i199_ i200_ i201_ z3 z4 i202_ i203_ i204_ i205_ W9 uW9 Hown hDr i206_ hZr c0w this OK HAP hOK i0_ i1_ i2_ i3_ hOld hNew hOldK hNewK hkind
  have c0 : W9.cell? ⟨D, 0, none⟩ = some (.int .u8 1) := by rw [← hkind]; exact c0w
  obtain ⟨oldz, holdz⟩ : ∃ b, decide (c.old = Ln.zero) = b := ⟨_, rfl⟩
  obtain ⟨newr, hnewr⟩ : ∃ b, c.new.right = b := ⟨_, rfl⟩
  have hrt : ∀ W, Gives Tryz.prog 19 #[.agg c.new.cells.toArray] W (.bool newr) := fun W => (rright38_any c.new W cb2).cast (by rw [hnewr])
  have hap : apOk (a.drop j) c = (oldz && newr) := by rw [HDN.out]; rw [apOk_1n hkind, holdz, hnewr]
  skip
  cases oldz
  · skip
    have hval : apOk (a.drop j) c = false := hap.trans (by cases newr <;> rfl)
    obtain rfl : OK = false := by rw [← hOK]; exact hval
    clear hval hOK
    refine wp_region_ext (by kernel_rfl) (by kernel_rfl) ?_
    (try dsimp only [List.append])
    repeat (first
      | go_big_quiet_skip
      | ((with_reducible refine held ?_); refine HQ_load_mid (by kernel_rfl) 89 _ rfl D (0) rfl c.cells _ (range_ext hZr) Tryz.underlying89 rfl rchSize ?_; simp only [Act.put, List.setIfInBounds_toArray, List.set_cons_succ, List.set_cons_zero])
      | ((with_reducible refine held ?_); refine HQ_load_mid (by kernel_rfl) 60 _ rfl D (1) rfl c.old.cells _ (range_ext hOld) Tryz.underlying60 rfl rlnSize ?_; simp only [Act.put, List.setIfInBounds_toArray, List.set_cons_succ, List.set_cons_zero])
      | ((with_reducible refine held ?_); refine HQ_load_mid (by kernel_rfl) 60 _ rfl D (12) rfl c.new.cells _ (range_ext hNew) Tryz.underlying60 rfl rlnSize ?_; simp only [Act.put, List.setIfInBounds_toArray, List.set_cons_succ, List.set_cons_zero])
      | ((with_reducible refine held ?_); refine HQ_load_mid (by kernel_rfl) 29 _ rfl D (1) rfl [.int .u8 c.old.pr, .int .u32 c.old.s, .int .u32 c.old.d, .int .u16 c.old.sp, .int .u16 c.old.dp] _ (range_ext hOldK) Tryz.underlying29 rfl keySize ?_; simp only [Act.put, List.setIfInBounds_toArray, List.set_cons_succ, List.set_cons_zero])
      | ((with_reducible refine held ?_); refine HQ_load_mid (by kernel_rfl) 29 _ rfl D (12) rfl [.int .u8 c.new.pr, .int .u32 c.new.s, .int .u32 c.new.d, .int .u16 c.new.sp, .int .u16 c.new.dp] _ (range_ext hNewK) Tryz.underlying29 rfl keySize ?_; simp only [Act.put, List.setIfInBounds_toArray, List.set_cons_succ, List.set_cons_zero])
      | ((with_reducible refine held ?_); refine HQ_build (by kernel_rfl) 60 _ rfl #[] (by kernel_rfl) _ (fun w => build_rzero w) ?_; simp only [Act.put, List.setIfInBounds_toArray, List.set_cons_succ, List.set_cons_zero])
      | go_big_quiet_step (first | (go_at_call 60; with_reducible exact (hkc _).ext) | (go_at_call 19; with_reducible exact (hrt _).ext)))
    refine wpQuiet_nil ?_
    rintro _ ⟨z5, rfl⟩
    go_wp2_with fail
    go_meet
    exact ⟨rfl, inferInstance⟩
  · skip
    cases newr
    · skip
      have hval : apOk (a.drop j) c = false := hap
      obtain rfl : OK = false := by rw [← hOK]; exact hval
      clear hval hOK
      refine wp_region_ext (by kernel_rfl) (by kernel_rfl) ?_
      (try dsimp only [List.append])
      repeat (first
        | go_big_quiet_skip
        | ((with_reducible refine held ?_); refine HQ_load_mid (by kernel_rfl) 89 _ rfl D (0) rfl c.cells _ (range_ext hZr) Tryz.underlying89 rfl rchSize ?_; simp only [Act.put, List.setIfInBounds_toArray, List.set_cons_succ, List.set_cons_zero])
        | ((with_reducible refine held ?_); refine HQ_load_mid (by kernel_rfl) 60 _ rfl D (1) rfl c.old.cells _ (range_ext hOld) Tryz.underlying60 rfl rlnSize ?_; simp only [Act.put, List.setIfInBounds_toArray, List.set_cons_succ, List.set_cons_zero])
        | ((with_reducible refine held ?_); refine HQ_load_mid (by kernel_rfl) 60 _ rfl D (12) rfl c.new.cells _ (range_ext hNew) Tryz.underlying60 rfl rlnSize ?_; simp only [Act.put, List.setIfInBounds_toArray, List.set_cons_succ, List.set_cons_zero])
        | ((with_reducible refine held ?_); refine HQ_load_mid (by kernel_rfl) 29 _ rfl D (1) rfl [.int .u8 c.old.pr, .int .u32 c.old.s, .int .u32 c.old.d, .int .u16 c.old.sp, .int .u16 c.old.dp] _ (range_ext hOldK) Tryz.underlying29 rfl keySize ?_; simp only [Act.put, List.setIfInBounds_toArray, List.set_cons_succ, List.set_cons_zero])
        | ((with_reducible refine held ?_); refine HQ_load_mid (by kernel_rfl) 29 _ rfl D (12) rfl [.int .u8 c.new.pr, .int .u32 c.new.s, .int .u32 c.new.d, .int .u16 c.new.sp, .int .u16 c.new.dp] _ (range_ext hNewK) Tryz.underlying29 rfl keySize ?_; simp only [Act.put, List.setIfInBounds_toArray, List.set_cons_succ, List.set_cons_zero])
        | ((with_reducible refine held ?_); refine HQ_build (by kernel_rfl) 60 _ rfl #[] (by kernel_rfl) _ (fun w => build_rzero w) ?_; simp only [Act.put, List.setIfInBounds_toArray, List.set_cons_succ, List.set_cons_zero])
        | go_big_quiet_step (first | (go_at_call 60; with_reducible exact (hkc _).ext) | (go_at_call 19; with_reducible exact (hrt _).ext)))
      refine wpQuiet_nil ?_
      rintro _ ⟨z5, rfl⟩
      go_wp2_with fail
      go_meet
      exact ⟨rfl, inferInstance⟩
    · skip
      have hval : apOk (a.drop j) c = true := hap
      obtain rfl : OK = true := by rw [← hOK]; exact hval
      clear hval hOK
      refine wp_region_ext (by kernel_rfl) (by kernel_rfl) ?_
      (try dsimp only [List.append])
      repeat (first
        | go_big_quiet_skip
        | ((with_reducible refine held ?_); refine HQ_load_mid (by kernel_rfl) 89 _ rfl D (0) rfl c.cells _ (range_ext hZr) Tryz.underlying89 rfl rchSize ?_; simp only [Act.put, List.setIfInBounds_toArray, List.set_cons_succ, List.set_cons_zero])
        | ((with_reducible refine held ?_); refine HQ_load_mid (by kernel_rfl) 60 _ rfl D (1) rfl c.old.cells _ (range_ext hOld) Tryz.underlying60 rfl rlnSize ?_; simp only [Act.put, List.setIfInBounds_toArray, List.set_cons_succ, List.set_cons_zero])
        | ((with_reducible refine held ?_); refine HQ_load_mid (by kernel_rfl) 60 _ rfl D (12) rfl c.new.cells _ (range_ext hNew) Tryz.underlying60 rfl rlnSize ?_; simp only [Act.put, List.setIfInBounds_toArray, List.set_cons_succ, List.set_cons_zero])
        | ((with_reducible refine held ?_); refine HQ_load_mid (by kernel_rfl) 29 _ rfl D (1) rfl [.int .u8 c.old.pr, .int .u32 c.old.s, .int .u32 c.old.d, .int .u16 c.old.sp, .int .u16 c.old.dp] _ (range_ext hOldK) Tryz.underlying29 rfl keySize ?_; simp only [Act.put, List.setIfInBounds_toArray, List.set_cons_succ, List.set_cons_zero])
        | ((with_reducible refine held ?_); refine HQ_load_mid (by kernel_rfl) 29 _ rfl D (12) rfl [.int .u8 c.new.pr, .int .u32 c.new.s, .int .u32 c.new.d, .int .u16 c.new.sp, .int .u16 c.new.dp] _ (range_ext hNewK) Tryz.underlying29 rfl keySize ?_; simp only [Act.put, List.setIfInBounds_toArray, List.set_cons_succ, List.set_cons_zero])
        | ((with_reducible refine held ?_); refine HQ_build (by kernel_rfl) 60 _ rfl #[] (by kernel_rfl) _ (fun w => build_rzero w) ?_; simp only [Act.put, List.setIfInBounds_toArray, List.set_cons_succ, List.set_cons_zero])
        | go_big_quiet_step (first | (go_at_call 60; with_reducible exact (hkc _).ext) | (go_at_call 19; with_reducible exact (hrt _).ext)))
      refine wpQuiet_nil ?_
      rintro _ ⟨z5, rfl⟩
      go_wp2_with fail
      go_meet
      exact ⟨rfl, inferInstance⟩
set_option maxHeartbeats 64000000 in
set_option maxRecDepth 100000 in
theorem rapKC2 : rapRC.2.1 := by
  unfold rapRC
  intro a l base0 w F cap pa capa N ll hle HN HCA Hba Hbl Hsom i0 Hi Hy0 Hy1 Hy2 HF i0_ z1 i1_ i2_ i3_ u4 u5 i4_ u9 u10 i5_ i6_ i7_ i8_ i9_ i10_ i11_ i12_ i13_ i14_ i15_ i16_ i17_ i18_ i19_ i20_ i21_ i22_ i23_ i24_ i25_ i26_ i27_ i28_ i29_ i30_ i31_ i32_
  intro i33_ i34_ i35_ i36_ i37_ u47 i38_ i39_ i40_ i41_ i42_ i43_ i44_ i45_ i46_ i47_ i48_ i49_ i50_ i51_ i52_ i53_ i54_ i55_ i56_ i57_ i58_ i59_ i60_ i61_ i62_ i63_ i64_ i65_ i66_ i67_ i68_ i69_ i70_ i71_ i72_ i73_ i74_ i75_ i76_ i77_ i78_ i79_ i80_ i81_ i82_ i83_ i84_ i85_ i86_ i87_ i88_ i89_ i90_ i91_
  intro i92_ i93_ i94_ i95_ i96_ i97_ i98_ i99_ i100_ i101_ i102_ i103_ i104_ i105_ i106_ i107_ i108_ i109_ i110_ i111_ i112_ i113_ i114_ i115_ i116_ i117_ i118_ i119_ i120_ i121_ i122_ i123_ i124_ i125_ i126_ i127_ i128_ i129_ i130_ i131_ i132_ i133_ i134_ i135_ i136_ i137_ i138_ i139_ i140_ i141_ i142_ i143_ i144_ i145_ i146_ i147_ i148_ i149_ i150_ i151_
  intro i152_ i153_ i154_ i155_ i156_ i157_ i158_ i159_ i160_ i161_ k j0 M0 hk i162_ hlt hlt' k0 c b1 o1 Hc hb1 cb1 cb2 Hx i163_ D Z uZ i164_ i165_ i166_ hkc wc u14 u15 u16 u17 u18 u19 u20 u21 u22 u23 u24 u25 u26 u27 u28 u29 u30 u31 u32 u33 u34 u35 u36 u37 u38
  intro u39 u40 u41 u42 u43 u44 u45 u46 i167_ i168_ i169_ i170_ i171_ i172_ i173_ i174_ i175_ i176_ i177_ i178_ i179_ i180_ i181_ i182_ i183_ i184_ i185_ i186_ i187_ i188_ i189_ i190_ u72 u73 u74 u75 u76 u77 u78 u79 u80 u81 u82 u83 u84 u85 u86 u87 u88 u89 u90 u91 u92 u93 u94 u95 u96 u97 u98 u99
  intro u100 u101 u102 u103 u104 u105 u106 u107 u108 u109 u110 u111 u112 u113 u114 u115 u116 u117 u118 u119 u120 u121 u122 u123 u124 u125 u126 u127 u128 u129 u130 u131 u132 u133 u134 u135 u136 u137 u138 u139 u140 u141 u142 u143 u144 u145 u146 u147 u148 u149 u150 u151 u152 u153 u154 u155 u156 u157 u158 u159
  intro u160 u161 u162 u163 u164 u165 u166 u167 u168 u169 u170 u171 hu3 i191_ i192_ i193_ hDc hk123 i194_ wr u6 u48 u49 u50 u51 u52 u53 u54 u55 u56 u57 u58 u59 u60 u61 u62 u63 u64 u65 u66 u67 u68 u69 u70 u71 j M HT hMl hu i195_ i196_ la hlea HNA Hnil i197_ i198_ hj hja
  intro hjn HDN HTW i199_ i200_ i201_ z3 z4 i202_ i203_ i204_ i205_ W9 uW9 Hown hDr i206_ hZr c0w this OK HAP hOK i0_ i1_ i2_ i3_ hOld hNew hOldK hNewK hkind
  have c0 : W9.cell? ⟨D, 0, none⟩ = some (.int .u8 2) := by rw [← hkind]; exact c0w
  have hval : apOk (a.drop j) c = false := by rw [HDN.out]; exact apOk_2n hkind
  obtain rfl : OK = false := by rw [← hOK]; exact hval
  clear hval hOK
  refine wp_region_ext (by kernel_rfl) (by kernel_rfl) ?_
  (try dsimp only [List.append])
  repeat (first
    | go_big_quiet_skip
    | ((with_reducible refine held ?_); refine HQ_load_mid (by kernel_rfl) 89 _ rfl D (0) rfl c.cells _ (range_ext hZr) Tryz.underlying89 rfl rchSize ?_; simp only [Act.put, List.setIfInBounds_toArray, List.set_cons_succ, List.set_cons_zero])
    | ((with_reducible refine held ?_); refine HQ_load_mid (by kernel_rfl) 60 _ rfl D (1) rfl c.old.cells _ (range_ext hOld) Tryz.underlying60 rfl rlnSize ?_; simp only [Act.put, List.setIfInBounds_toArray, List.set_cons_succ, List.set_cons_zero])
    | ((with_reducible refine held ?_); refine HQ_load_mid (by kernel_rfl) 60 _ rfl D (12) rfl c.new.cells _ (range_ext hNew) Tryz.underlying60 rfl rlnSize ?_; simp only [Act.put, List.setIfInBounds_toArray, List.set_cons_succ, List.set_cons_zero])
    | ((with_reducible refine held ?_); refine HQ_load_mid (by kernel_rfl) 29 _ rfl D (1) rfl [.int .u8 c.old.pr, .int .u32 c.old.s, .int .u32 c.old.d, .int .u16 c.old.sp, .int .u16 c.old.dp] _ (range_ext hOldK) Tryz.underlying29 rfl keySize ?_; simp only [Act.put, List.setIfInBounds_toArray, List.set_cons_succ, List.set_cons_zero])
    | ((with_reducible refine held ?_); refine HQ_load_mid (by kernel_rfl) 29 _ rfl D (12) rfl [.int .u8 c.new.pr, .int .u32 c.new.s, .int .u32 c.new.d, .int .u16 c.new.sp, .int .u16 c.new.dp] _ (range_ext hNewK) Tryz.underlying29 rfl keySize ?_; simp only [Act.put, List.setIfInBounds_toArray, List.set_cons_succ, List.set_cons_zero])
    | ((with_reducible refine held ?_); refine HQ_build (by kernel_rfl) 60 _ rfl #[] (by kernel_rfl) _ (fun w => build_rzero w) ?_; simp only [Act.put, List.setIfInBounds_toArray, List.set_cons_succ, List.set_cons_zero])
    | go_big_quiet_step (first | (go_at_call 60; with_reducible exact (hkc _).ext) | (go_at_call 19; with_reducible exact (hrt _).ext)))
  refine wpQuiet_nil ?_
  rintro _ ⟨z5, rfl⟩
  go_wp2_with fail
  go_meet
  exact ⟨rfl, inferInstance⟩
set_option maxHeartbeats 64000000 in
set_option maxRecDepth 100000 in
theorem rapKC3 : rapRC.2.2.1 := by
  unfold rapRC
  intro a l base0 w F cap pa capa N ll hle HN HCA Hba Hbl Hsom i0 Hi Hy0 Hy1 Hy2 HF i0_ z1 i1_ i2_ i3_ u4 u5 i4_ u9 u10 i5_ i6_ i7_ i8_ i9_ i10_ i11_ i12_ i13_ i14_ i15_ i16_ i17_ i18_ i19_ i20_ i21_ i22_ i23_ i24_ i25_ i26_ i27_ i28_ i29_ i30_ i31_ i32_
  intro i33_ i34_ i35_ i36_ i37_ u47 i38_ i39_ i40_ i41_ i42_ i43_ i44_ i45_ i46_ i47_ i48_ i49_ i50_ i51_ i52_ i53_ i54_ i55_ i56_ i57_ i58_ i59_ i60_ i61_ i62_ i63_ i64_ i65_ i66_ i67_ i68_ i69_ i70_ i71_ i72_ i73_ i74_ i75_ i76_ i77_ i78_ i79_ i80_ i81_ i82_ i83_ i84_ i85_ i86_ i87_ i88_ i89_ i90_ i91_
  intro i92_ i93_ i94_ i95_ i96_ i97_ i98_ i99_ i100_ i101_ i102_ i103_ i104_ i105_ i106_ i107_ i108_ i109_ i110_ i111_ i112_ i113_ i114_ i115_ i116_ i117_ i118_ i119_ i120_ i121_ i122_ i123_ i124_ i125_ i126_ i127_ i128_ i129_ i130_ i131_ i132_ i133_ i134_ i135_ i136_ i137_ i138_ i139_ i140_ i141_ i142_ i143_ i144_ i145_ i146_ i147_ i148_ i149_ i150_ i151_
  intro i152_ i153_ i154_ i155_ i156_ i157_ i158_ i159_ i160_ i161_ k j0 M0 hk i162_ hlt hlt' k0 c b1 o1 Hc hb1 cb1 cb2 Hx i163_ D Z uZ i164_ i165_ i166_ hkc wc u14 u15 u16 u17 u18 u19 u20 u21 u22 u23 u24 u25 u26 u27 u28 u29 u30 u31 u32 u33 u34 u35 u36 u37 u38
  intro u39 u40 u41 u42 u43 u44 u45 u46 i167_ i168_ i169_ i170_ i171_ i172_ i173_ i174_ i175_ i176_ i177_ i178_ i179_ i180_ i181_ i182_ i183_ i184_ i185_ i186_ i187_ i188_ i189_ i190_ u72 u73 u74 u75 u76 u77 u78 u79 u80 u81 u82 u83 u84 u85 u86 u87 u88 u89 u90 u91 u92 u93 u94 u95 u96 u97 u98 u99
  intro u100 u101 u102 u103 u104 u105 u106 u107 u108 u109 u110 u111 u112 u113 u114 u115 u116 u117 u118 u119 u120 u121 u122 u123 u124 u125 u126 u127 u128 u129 u130 u131 u132 u133 u134 u135 u136 u137 u138 u139 u140 u141 u142 u143 u144 u145 u146 u147 u148 u149 u150 u151 u152 u153 u154 u155 u156 u157 u158 u159
  intro u160 u161 u162 u163 u164 u165 u166 u167 u168 u169 u170 u171 hu3 i191_ i192_ i193_ hDc hk123 i194_ wr u6 u48 u49 u50 u51 u52 u53 u54 u55 u56 u57 u58 u59 u60 u61 u62 u63 u64 u65 u66 u67 u68 u69 u70 u71 j M HT hMl hu i195_ i196_ la hlea HNA Hnil i197_ i198_ hj hja
  intro hjn HDN HTW i199_ i200_ i201_ z3 z4 i202_ i203_ i204_ i205_ W9 uW9 Hown hDr i206_ hZr c0w this OK HAP hOK i0_ i1_ i2_ i3_ hOld hNew hOldK hNewK hkind
  have c0 : W9.cell? ⟨D, 0, none⟩ = some (.int .u8 3) := by rw [← hkind]; exact c0w
  have hval : apOk (a.drop j) c = false := by rw [HDN.out]; exact apOk_3n hkind
  obtain rfl : OK = false := by rw [← hOK]; exact hval
  clear hval hOK
  refine wp_region_ext (by kernel_rfl) (by kernel_rfl) ?_
  (try dsimp only [List.append])
  repeat (first
    | go_big_quiet_skip
    | ((with_reducible refine held ?_); refine HQ_load_mid (by kernel_rfl) 89 _ rfl D (0) rfl c.cells _ (range_ext hZr) Tryz.underlying89 rfl rchSize ?_; simp only [Act.put, List.setIfInBounds_toArray, List.set_cons_succ, List.set_cons_zero])
    | ((with_reducible refine held ?_); refine HQ_load_mid (by kernel_rfl) 60 _ rfl D (1) rfl c.old.cells _ (range_ext hOld) Tryz.underlying60 rfl rlnSize ?_; simp only [Act.put, List.setIfInBounds_toArray, List.set_cons_succ, List.set_cons_zero])
    | ((with_reducible refine held ?_); refine HQ_load_mid (by kernel_rfl) 60 _ rfl D (12) rfl c.new.cells _ (range_ext hNew) Tryz.underlying60 rfl rlnSize ?_; simp only [Act.put, List.setIfInBounds_toArray, List.set_cons_succ, List.set_cons_zero])
    | ((with_reducible refine held ?_); refine HQ_load_mid (by kernel_rfl) 29 _ rfl D (1) rfl [.int .u8 c.old.pr, .int .u32 c.old.s, .int .u32 c.old.d, .int .u16 c.old.sp, .int .u16 c.old.dp] _ (range_ext hOldK) Tryz.underlying29 rfl keySize ?_; simp only [Act.put, List.setIfInBounds_toArray, List.set_cons_succ, List.set_cons_zero])
    | ((with_reducible refine held ?_); refine HQ_load_mid (by kernel_rfl) 29 _ rfl D (12) rfl [.int .u8 c.new.pr, .int .u32 c.new.s, .int .u32 c.new.d, .int .u16 c.new.sp, .int .u16 c.new.dp] _ (range_ext hNewK) Tryz.underlying29 rfl keySize ?_; simp only [Act.put, List.setIfInBounds_toArray, List.set_cons_succ, List.set_cons_zero])
    | ((with_reducible refine held ?_); refine HQ_build (by kernel_rfl) 60 _ rfl #[] (by kernel_rfl) _ (fun w => build_rzero w) ?_; simp only [Act.put, List.setIfInBounds_toArray, List.set_cons_succ, List.set_cons_zero])
    | go_big_quiet_step (first | (go_at_call 60; with_reducible exact (hkc _).ext) | (go_at_call 19; with_reducible exact (hrt _).ext)))
  refine wpQuiet_nil ?_
  rintro _ ⟨z5, rfl⟩
  go_wp2_with fail
  go_meet
  exact ⟨rfl, inferInstance⟩
theorem rapRest2 : rapPart.2.1 := rapRC.2.2.2 rapKC1 rapKC2 rapKC3
end Go.Proofs.YtlbbepgfjigjpaaGreatDoor
namespace Go.Proofs.YtlbbepgfjigjpaaGreatDoor
open Go.RowKit Go.Ab
theorem rapply_any (a : List Ln) (l : List Ch) (va vl : Value) (base0 : Nat) (w : World) (hao : w.ownsRow base0 60 11 va a.length (a.flatMap Ln.cells)) (hv : ChRow w vl l) (ba : ∀ x ∈ a, LnB x) (bl : ∀ c ∈ l, LnB c.old ∧ LnB c.new) (la : a.length ≤ 1000) (ll : l.length ≤ 1000) :
    Calls Tryz.prog 34 #[va, vl] w fun e w' => apPost (refApplyL a l) w.heap.size e w' ∧ ∃ x : Ext w, w' = x.w := rapPart.2.2 rapRest1 rapRest2 a l va vl base0 w hao hv ba bl la ll
end Go.Proofs.YtlbbepgfjigjpaaGreatDoor
