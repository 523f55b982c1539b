/- ExactServes: for every input the given law returns true, and its arguments read as before. No condition. -/
import Derived.Test.YtilbengnjgglhaaGreatRows
import Derived.Test.YtilbengnjgglhaaGreatc2x7
import Derived.Test.YtilbengnjgglhaaGreatc2x9
namespace Go.Proofs.YtilbengnjgglhaaGreat
open Go.ChangeShapes Go.WideShapes Go.ChangeAt Go.RowKit
set_option linter.unusedSimpArgs false
set_option linter.unusedVariables false
theorem QlN:ownKnob Tryz.prog.godebug=none:=by kernel_rfl
theorem Qi4:laidOutB Tryz.prog=true:=by kernel_rfl
theorem QfZ {W:World}:Opn Tryz.prog W 63 Qv QdA:=by
 intro H enc spare held fuel cs x h;obtain ⟨xs,n,_,_,hlen,hxl,hf⟩:=DataW.trod_struct Tryz.underlying63 h
 rw[show Tryz.prog.cellsOf 63=4 by kernel_rfl] at hlen
 have g0:DataW.trod enc Tryz.prog W 0 spare held n 3 ((cs.drop 0).take (Tryz.prog.cellsOf 3))=xs[0]? :=hf 0 _ rfl
 rw[show Tryz.prog.cellsOf 3=1 by kernel_rfl,List.getElem?_eq_getElem (by rw[hxl];decide)] at g0
 obtain ⟨d0,h0,q0⟩:=(Jc Tryz.underlying3) H enc spare held n _ _ g0;have g1:DataW.trod enc Tryz.prog W 0 spare held n 3 ((cs.drop 1).take (Tryz.prog.cellsOf 3))=xs[1]? :=hf 1 _ rfl
 rw[show Tryz.prog.cellsOf 3=1 by kernel_rfl,List.getElem?_eq_getElem (by rw[hxl];decide)] at g1
 obtain ⟨d1,h1,q1⟩:=(Jc Tryz.underlying3) H enc spare held n _ _ g1;have g2:DataW.trod enc Tryz.prog W 0 spare held n 3 ((cs.drop 2).take (Tryz.prog.cellsOf 3))=xs[2]? :=hf 2 _ rfl
 rw[show Tryz.prog.cellsOf 3=1 by kernel_rfl,List.getElem?_eq_getElem (by rw[hxl];decide)] at g2
 obtain ⟨d2,h2,q2⟩:=(Jc Tryz.underlying3) H enc spare held n _ _ g2;have g3:DataW.trod enc Tryz.prog W 0 spare held n 3 ((cs.drop 3).take (Tryz.prog.cellsOf 3))=xs[3]? :=hf 3 _ rfl
 rw[show Tryz.prog.cellsOf 3=1 by kernel_rfl,List.getElem?_eq_getElem (by rw[hxl];decide)] at g3
 obtain ⟨d3,h3,q3⟩:=(Jc Tryz.underlying3) H enc spare held n _ _ g3;have e0:cs.drop 0=(cs.drop 0).take 1++cs.drop 1:=Z5 rfl;have e1:cs.drop 1=(cs.drop 1).take 1++cs.drop 2:=Z5 rfl;have e2:cs.drop 2=(cs.drop 2).take 1++cs.drop 3:=Z5 rfl;have e3:cs.drop 3=(cs.drop 3).take 1++cs.drop 4:=Z5 rfl;have en:cs.drop 4=[]:=List.drop_of_length_le (by omega);have hcs:cs.drop 0=_:=e0
 rw[e1,e2,e3,en,show (cs.drop 0).take 1=_ from h0,show (cs.drop 1).take 1=_ from h1,show (cs.drop 2).take 1=_ from h2,show (cs.drop 3).take 1=_ from h3] at hcs
 exact ⟨⟨d0,d1,d2,d3⟩,hcs,q0,q1,q2,q3⟩
theorem Qf0 {W:World}:Opn Tryz.prog W 24 Qhn QdB:=by
 intro H enc spare held fuel cs x h;obtain ⟨xs,n,_,_,hlen,hxl,hf⟩:=DataW.trod_struct Tryz.underlying24 h
 rw[show Tryz.prog.cellsOf 24=2 by kernel_rfl] at hlen
 have g0:DataW.trod enc Tryz.prog W 0 spare held n 3 ((cs.drop 0).take (Tryz.prog.cellsOf 3))=xs[0]? :=hf 0 _ rfl
 rw[show Tryz.prog.cellsOf 3=1 by kernel_rfl,List.getElem?_eq_getElem (by rw[hxl];decide)] at g0
 obtain ⟨d0,h0,q0⟩:=(Jc Tryz.underlying3) H enc spare held n _ _ g0;have g1:DataW.trod enc Tryz.prog W 0 spare held n 22 ((cs.drop 1).take (Tryz.prog.cellsOf 22))=xs[1]? :=hf 1 _ rfl
 rw[show Tryz.prog.cellsOf 22=1 by kernel_rfl,List.getElem?_eq_getElem (by rw[hxl];decide)] at g1
 obtain ⟨d1,h1,q1⟩:=(QbN Tryz.underlying22 (by kernel_rfl) QfZ) H enc spare held n _ _ g1;have e0:cs.drop 0=(cs.drop 0).take 1++cs.drop 1:=Z5 rfl;have e1:cs.drop 1=(cs.drop 1).take 1++cs.drop 2:=Z5 rfl;have en:cs.drop 2=[]:=List.drop_of_length_le (by omega);obtain ⟨A0,c0,h1,hl0,hm0,ha0⟩:=h1;have hcs:cs.drop 0=_:=e0
 rw[e1,en,show (cs.drop 0).take 1=_ from h0,show (cs.drop 1).take 1=_ from h1] at hcs
 exact ⟨⟨d0,d1⟩,⟨A0,c0,hcs,⟨hl0,hm0⟩,ha0⟩,q0,q1⟩
theorem Qbr {W:World}:Opn Tryz.prog W 59 Qf2 Qaj:=by
 intro H enc spare held fuel cs x h;obtain ⟨xs,n,_,_,hlen,hxl,hf⟩:=DataW.trod_struct Tryz.underlying59 h
 rw[show Tryz.prog.cellsOf 59=2 by kernel_rfl] at hlen
 have g0:DataW.trod enc Tryz.prog W 0 spare held n 3 ((cs.drop 0).take (Tryz.prog.cellsOf 3))=xs[0]? :=hf 0 _ rfl
 rw[show Tryz.prog.cellsOf 3=1 by kernel_rfl,List.getElem?_eq_getElem (by rw[hxl];decide)] at g0
 obtain ⟨d0,h0,q0⟩:=(Jc Tryz.underlying3) H enc spare held n _ _ g0;have g1:DataW.trod enc Tryz.prog W 0 spare held n 3 ((cs.drop 1).take (Tryz.prog.cellsOf 3))=xs[1]? :=hf 1 _ rfl
 rw[show Tryz.prog.cellsOf 3=1 by kernel_rfl,List.getElem?_eq_getElem (by rw[hxl];decide)] at g1
 obtain ⟨d1,h1,q1⟩:=(Jc Tryz.underlying3) H enc spare held n _ _ g1;have e0:cs.drop 0=(cs.drop 0).take 1++cs.drop 1:=Z5 rfl;have e1:cs.drop 1=(cs.drop 1).take 1++cs.drop 2:=Z5 rfl;have en:cs.drop 2=[]:=List.drop_of_length_le (by omega);have hcs:cs.drop 0=_:=e0
 rw[e1,en,show (cs.drop 0).take 1=_ from h0,show (cs.drop 1).take 1=_ from h1] at hcs
 exact ⟨⟨d0,d1⟩,hcs,q0,q1⟩
theorem QdL {W:World}:Opn Tryz.prog W 61 Qq QbH:=by
 intro H enc spare held fuel cs x h;obtain ⟨xs,n,_,_,hlen,hxl,hf⟩:=DataW.trod_struct Tryz.underlying61 h
 rw[show Tryz.prog.cellsOf 61=6 by kernel_rfl] at hlen
 have g0:DataW.trod enc Tryz.prog W 0 spare held n 9 ((cs.drop 0).take (Tryz.prog.cellsOf 9))=xs[0]? :=hf 0 _ rfl
 rw[show Tryz.prog.cellsOf 9=1 by kernel_rfl,List.getElem?_eq_getElem (by rw[hxl];decide)] at g0
 obtain ⟨d0,h0,q0⟩:=(Qj8 Tryz.underlying9) H enc spare held n _ _ g0;have g1:DataW.trod enc Tryz.prog W 0 spare held n 3 ((cs.drop 1).take (Tryz.prog.cellsOf 3))=xs[1]? :=hf 1 _ rfl
 rw[show Tryz.prog.cellsOf 3=1 by kernel_rfl,List.getElem?_eq_getElem (by rw[hxl];decide)] at g1
 obtain ⟨d1,h1,q1⟩:=(Jc Tryz.underlying3) H enc spare held n _ _ g1;have g2:DataW.trod enc Tryz.prog W 0 spare held n 59 ((cs.drop 2).take (Tryz.prog.cellsOf 59))=xs[2]? :=hf 2 _ rfl
 rw[show Tryz.prog.cellsOf 59=2 by kernel_rfl,List.getElem?_eq_getElem (by rw[hxl];decide)] at g2
 obtain ⟨d2,h2,q2⟩:=Qbr H enc spare held n _ _ g2;have g3:DataW.trod enc Tryz.prog W 0 spare held n 3 ((cs.drop 4).take (Tryz.prog.cellsOf 3))=xs[3]? :=hf 3 _ rfl
 rw[show Tryz.prog.cellsOf 3=1 by kernel_rfl,List.getElem?_eq_getElem (by rw[hxl];decide)] at g3
 obtain ⟨d3,h3,q3⟩:=(Jc Tryz.underlying3) H enc spare held n _ _ g3;have g4:DataW.trod enc Tryz.prog W 0 spare held n 3 ((cs.drop 5).take (Tryz.prog.cellsOf 3))=xs[4]? :=hf 4 _ rfl
 rw[show Tryz.prog.cellsOf 3=1 by kernel_rfl,List.getElem?_eq_getElem (by rw[hxl];decide)] at g4
 obtain ⟨d4,h4,q4⟩:=(Jc Tryz.underlying3) H enc spare held n _ _ g4;have e0:cs.drop 0=(cs.drop 0).take 1++cs.drop 1:=Z5 rfl;have e1:cs.drop 1=(cs.drop 1).take 1++cs.drop 2:=Z5 rfl;have e2:cs.drop 2=(cs.drop 2).take 2++cs.drop 4:=Z5 rfl;have e3:cs.drop 4=(cs.drop 4).take 1++cs.drop 5:=Z5 rfl;have e4:cs.drop 5=(cs.drop 5).take 1++cs.drop 6:=Z5 rfl;have en:cs.drop 6=[]:=List.drop_of_length_le (by omega);have hcs:cs.drop 0=_:=e0
 rw[e1,e2,e3,e4,en,show (cs.drop 0).take 1=_ from h0,show (cs.drop 1).take 1=_ from h1,show (cs.drop 2).take 2=_ from h2,show (cs.drop 4).take 1=_ from h3,show (cs.drop 5).take 1=_ from h4] at hcs
 exact ⟨⟨d0,d1,d2,d3,d4⟩,hcs,q0,q1,q2,q3,q4⟩
theorem Qex {W:World}:Opn Tryz.prog W 65 Qr Qb8:=by
 intro H enc spare held fuel cs x h;obtain ⟨xs,n,_,_,hlen,hxl,hf⟩:=DataW.trod_struct Tryz.underlying65 h
 rw[show Tryz.prog.cellsOf 65=7 by kernel_rfl] at hlen
 have g0:DataW.trod enc Tryz.prog W 0 spare held n 3 ((cs.drop 0).take (Tryz.prog.cellsOf 3))=xs[0]? :=hf 0 _ rfl
 rw[show Tryz.prog.cellsOf 3=1 by kernel_rfl,List.getElem?_eq_getElem (by rw[hxl];decide)] at g0
 obtain ⟨d0,h0,q0⟩:=(Jc Tryz.underlying3) H enc spare held n _ _ g0;have g1:DataW.trod enc Tryz.prog W 0 spare held n 3 ((cs.drop 1).take (Tryz.prog.cellsOf 3))=xs[1]? :=hf 1 _ rfl
 rw[show Tryz.prog.cellsOf 3=1 by kernel_rfl,List.getElem?_eq_getElem (by rw[hxl];decide)] at g1
 obtain ⟨d1,h1,q1⟩:=(Jc Tryz.underlying3) H enc spare held n _ _ g1;have g2:DataW.trod enc Tryz.prog W 0 spare held n 3 ((cs.drop 2).take (Tryz.prog.cellsOf 3))=xs[2]? :=hf 2 _ rfl
 rw[show Tryz.prog.cellsOf 3=1 by kernel_rfl,List.getElem?_eq_getElem (by rw[hxl];decide)] at g2
 obtain ⟨d2,h2,q2⟩:=(Jc Tryz.underlying3) H enc spare held n _ _ g2;have g3:DataW.trod enc Tryz.prog W 0 spare held n 3 ((cs.drop 3).take (Tryz.prog.cellsOf 3))=xs[3]? :=hf 3 _ rfl
 rw[show Tryz.prog.cellsOf 3=1 by kernel_rfl,List.getElem?_eq_getElem (by rw[hxl];decide)] at g3
 obtain ⟨d3,h3,q3⟩:=(Jc Tryz.underlying3) H enc spare held n _ _ g3;have g4:DataW.trod enc Tryz.prog W 0 spare held n 59 ((cs.drop 4).take (Tryz.prog.cellsOf 59))=xs[4]? :=hf 4 _ rfl
 rw[show Tryz.prog.cellsOf 59=2 by kernel_rfl,List.getElem?_eq_getElem (by rw[hxl];decide)] at g4
 obtain ⟨d4,h4,q4⟩:=Qbr H enc spare held n _ _ g4;have g5:DataW.trod enc Tryz.prog W 0 spare held n 3 ((cs.drop 6).take (Tryz.prog.cellsOf 3))=xs[5]? :=hf 5 _ rfl
 rw[show Tryz.prog.cellsOf 3=1 by kernel_rfl,List.getElem?_eq_getElem (by rw[hxl];decide)] at g5
 obtain ⟨d5,h5,q5⟩:=(Jc Tryz.underlying3) H enc spare held n _ _ g5;have e0:cs.drop 0=(cs.drop 0).take 1++cs.drop 1:=Z5 rfl;have e1:cs.drop 1=(cs.drop 1).take 1++cs.drop 2:=Z5 rfl;have e2:cs.drop 2=(cs.drop 2).take 1++cs.drop 3:=Z5 rfl;have e3:cs.drop 3=(cs.drop 3).take 1++cs.drop 4:=Z5 rfl;have e4:cs.drop 4=(cs.drop 4).take 2++cs.drop 6:=Z5 rfl;have e5:cs.drop 6=(cs.drop 6).take 1++cs.drop 7:=Z5 rfl;have en:cs.drop 7=[]:=List.drop_of_length_le (by omega);have hcs:cs.drop 0=_:=e0
 rw[e1,e2,e3,e4,e5,en,show (cs.drop 0).take 1=_ from h0,show (cs.drop 1).take 1=_ from h1,show (cs.drop 2).take 1=_ from h2,show (cs.drop 3).take 1=_ from h3,show (cs.drop 4).take 2=_ from h4,show (cs.drop 6).take 1=_ from h5] at hcs
 exact ⟨⟨d0,d1,d2,d3,d4,d5⟩,hcs,q0,q1,q2,q3,q4,q5⟩
theorem QdK {W:World}:Opn Tryz.prog W 28 QeU QbG:=by
 intro H enc spare held fuel cs x h;obtain ⟨xs,n,_,_,hlen,hxl,hf⟩:=DataW.trod_struct Tryz.underlying28 h
 rw[show Tryz.prog.cellsOf 28=6 by kernel_rfl] at hlen
 have g0:DataW.trod enc Tryz.prog W 0 spare held n 24 ((cs.drop 0).take (Tryz.prog.cellsOf 24))=xs[0]? :=hf 0 _ rfl
 rw[show Tryz.prog.cellsOf 24=2 by kernel_rfl,List.getElem?_eq_getElem (by rw[hxl];decide)] at g0
 obtain ⟨d0,h0,q0⟩:=Qf0 H enc spare held n _ _ g0;have g1:DataW.trod enc Tryz.prog W 0 spare held n 25 ((cs.drop 2).take (Tryz.prog.cellsOf 25))=xs[1]? :=hf 1 _ rfl
 rw[show Tryz.prog.cellsOf 25=1 by kernel_rfl,List.getElem?_eq_getElem (by rw[hxl];decide)] at g1
 obtain ⟨d1,h1,q1⟩:=(QbN Tryz.underlying25 (by kernel_rfl) QdL) H enc spare held n _ _ g1;have g2:DataW.trod enc Tryz.prog W 0 spare held n 26 ((cs.drop 3).take (Tryz.prog.cellsOf 26))=xs[2]? :=hf 2 _ rfl
 rw[show Tryz.prog.cellsOf 26=1 by kernel_rfl,List.getElem?_eq_getElem (by rw[hxl];decide)] at g2
 obtain ⟨d2,h2,q2⟩:=(QbN Tryz.underlying26 (by kernel_rfl) Qex) H enc spare held n _ _ g2;have g3:DataW.trod enc Tryz.prog W 0 spare held n 3 ((cs.drop 4).take (Tryz.prog.cellsOf 3))=xs[3]? :=hf 3 _ rfl
 rw[show Tryz.prog.cellsOf 3=1 by kernel_rfl,List.getElem?_eq_getElem (by rw[hxl];decide)] at g3
 obtain ⟨d3,h3,q3⟩:=(Jc Tryz.underlying3) H enc spare held n _ _ g3;have g4:DataW.trod enc Tryz.prog W 0 spare held n 3 ((cs.drop 5).take (Tryz.prog.cellsOf 3))=xs[4]? :=hf 4 _ rfl
 rw[show Tryz.prog.cellsOf 3=1 by kernel_rfl,List.getElem?_eq_getElem (by rw[hxl];decide)] at g4
 obtain ⟨d4,h4,q4⟩:=(Jc Tryz.underlying3) H enc spare held n _ _ g4;have e0:cs.drop 0=(cs.drop 0).take 2++cs.drop 2:=Z5 rfl;have e1:cs.drop 2=(cs.drop 2).take 1++cs.drop 3:=Z5 rfl;have e2:cs.drop 3=(cs.drop 3).take 1++cs.drop 4:=Z5 rfl;have e3:cs.drop 4=(cs.drop 4).take 1++cs.drop 5:=Z5 rfl;have e4:cs.drop 5=(cs.drop 5).take 1++cs.drop 6:=Z5 rfl;have en:cs.drop 6=[]:=List.drop_of_length_le (by omega);obtain ⟨A0,c0,h0,hl0,ha0⟩:=h0;obtain ⟨A1,c1,h1,hl1,hm1,ha1⟩:=h1;obtain ⟨A2,c2,h2,hl2,hm2,ha2⟩:=h2;have hcs:cs.drop 0=_:=e0
 rw[e1,e2,e3,e4,en,show (cs.drop 0).take 2=_ from h0,show (cs.drop 2).take 1=_ from h1,show (cs.drop 3).take 1=_ from h2,show (cs.drop 4).take 1=_ from h3,show (cs.drop 5).take 1=_ from h4] at hcs
 exact ⟨⟨d0,d1,d2,d3,d4⟩,⟨A0,c0,A1,c1,A2,c2,hcs,hl0,ha0,⟨hl1,hm1⟩,ha1,⟨hl2,hm2⟩,ha2⟩,q0,q1,q2,q3,q4⟩
set_option maxRecDepth 100000 in
theorem Qcd (os:Os) (started:os.Started) (H:Type) (enc:TypeId×Value→H) :
  ReturnsInHanded {} Tryz.checked os 4 .any (Rows.exactServesSpec.pre6 enc Tryz.prog Tryz.f4 Rows.exactServesRow.domain false) (Rows.exactServesSpec.post enc Tryz.prog Tryz.f4 false true false false):=by
 refine returnsInHanded_of_change (C:=Tryz.checked) QlN started (by kernel_rfl) Tryz.func4
  (ChangeSpec.witness6 (enc:=enc) (C:=Tryz.checked) false ⟨#[], #[((Go.Value.agg #[(Go.Value.int Go.IntKind.i64 0),(Go.Value.slice none 0 0),(Go.Value.slice none 0 0),(Go.Value.slice none 0 0),(Go.Value.int Go.IntKind.i64 0),(Go.Value.int Go.IntKind.i64 0)])),(.int .i64 0),(.slice none 0 0)],[]⟩ 8 (by kernel_rfl) (by kernel_rfl) (by kernel_rfl) (by kernel_rfl)) ?_
 intro W base args ds gs before hval0 hW hcnd _;have hval: ∀(j:Nat) t v,Tryz.f4.params[j]? =some t→args[j]? =some v→Value.okWide Tryz.prog W .any base t v:=hval0;have hW':=hW;obtain ⟨p,q,hA0,hV,rfl,hfz,hnd⟩:=hW;have hA:DataW.TrodAll enc Tryz.prog W 0 (fun _=>true) true Tryz.f4.params.toList args.toList ds p:=hA0
 rw[Tryz.params4] at hA hval
 obtain ⟨rfl,rfl⟩:=trodVars_none hV
 clear hA0 hval0
 obtain ⟨v0,v1,v2,d0,d1,d2,p0,p1,p2,rfl,rfl,rfl,a0,a1,a2⟩:=trodAll_three hA;obtain ⟨cs0,rfl,_⟩:=okWide_struct Tryz.underlying28 (hval 0 28 v0 rfl rfl);obtain ⟨fu0,ht0⟩:=a0;obtain ⟨x0,hr0,q0⟩:=QdK (W:=W) H enc _ _ fu0 _ _ ht0;obtain ⟨A0_0,c0_0,A0_1,c0_1,A0_2,c0_2,hcs0,hl0_0,ha0_0,hl0_1,ha0_1,hl0_2,ha0_2⟩:=hr0;obtain rfl:=QiC hcs0;obtain ⟨x1,rfl,_,_,q1⟩:=open_int (P:=Tryz.prog) Tryz.underlying3 (hval 1 3 v1 rfl rfl) a1;obtain ⟨A2,n2,c2,rfl⟩:=okWide_slice Tryz.underlying29 (hval 2 29 v2 rfl rfl);obtain ⟨fu2,ht2⟩:=a2;obtain ⟨x2,⟨B2,b2,hcs2,hl2,hm2,ha2⟩,q2⟩:=(QbN (W:=W) Tryz.underlying29 (by kernel_rfl) (Jc Tryz.underlying3)) H enc _ _ fu2 _ _ ht2;have e2:Value.slice A2 n2 c2= .slice B2 x2.length b2:=by simpa [Value.cells] using hcs2
 injection e2 with e2a e2b e2c
 subst e2a e2b e2c;obtain ⟨F,hF⟩:=WX x0 x1 x2 q0 q1 q2;refine (Qgl (v:= .bool true) Tryz.func4 rfl (args:=[_,_,_]) (Vq hl0_0 ha0_0 hl0_1 ha0_1 hl0_2 ha0_2 ⟨hl2,hm2⟩ ha2 hF (fun _ _=>rfl))).mono fun e W' ⟨he,hw⟩=> ?_;exact ⟨_,he,Qip (tb:=4) hW' rfl rfl Tryz.underlying4 rfl rfl rfl Qi4 (by decide +kernel) hw⟩
theorem exactServes_holds:Rows.ExactServesSaid :=
 OpenClaim.holds_of_wide 4 Tryz.f4 rfl rfl rfl rfl rfl rfl rfl ⟨rfl,rfl,rfl,rfl,rfl⟩ rfl rfl rfl rfl rfl (by kernel_rfl) Tryz.func4 (by kernel_rfl)
  (of_decide_eq_true (by kernel_rfl)) (by unfold Func.isWrapper;first | (rw[if_pos (by decide +kernel)];kernel_rfl) | (rw[if_neg (by decide +kernel)];exact ⟨rfl,rfl⟩))
  (fun os started H enc _=>Qcd os started H enc)
end Go.Proofs.YtilbengnjgglhaaGreat
