/- ExactFewer: for every input the given law returns true, and its arguments read as before. No condition. -/
import Derived.Test.YtilbengnjgglhaaRows
import Derived.Test.Ytilbengnjgglhaac4x6
import Derived.Test.Ytilbengnjgglhaac4x8
namespace Go.Proofs.Ytilbengnjgglhaa
open Go.ChangeShapes Go.WideShapes Go.ChangeAt Go.RowKit
set_option linter.unusedSimpArgs false
set_option linter.unusedVariables false
theorem QkF:ownKnob Try.prog.godebug=none:=by kernel_rfl
theorem Qh3:laidOutB Try.prog=true:=by kernel_rfl
theorem QeM {W:World}:Opn Try.prog W 77 QE QcA:=by
 intro H enc spare held fuel cs x h;obtain ⟨xs,n,_,_,hlen,hxl,hf⟩:=DataW.trod_struct Try.underlying77 h
 rw[show Try.prog.cellsOf 77=4 by kernel_rfl] at hlen
 have g0:DataW.trod enc Try.prog W 0 spare held n 3 ((cs.drop 0).take (Try.prog.cellsOf 3))=xs[0]? :=hf 0 _ rfl
 rw[show Try.prog.cellsOf 3=1 by kernel_rfl,List.getElem?_eq_getElem (by rw[hxl];decide)] at g0
 obtain ⟨d0,h0,q0⟩:=(Zm Try.underlying3) H enc spare held n _ _ g0;have g1:DataW.trod enc Try.prog W 0 spare held n 3 ((cs.drop 1).take (Try.prog.cellsOf 3))=xs[1]? :=hf 1 _ rfl
 rw[show Try.prog.cellsOf 3=1 by kernel_rfl,List.getElem?_eq_getElem (by rw[hxl];decide)] at g1
 obtain ⟨d1,h1,q1⟩:=(Zm Try.underlying3) H enc spare held n _ _ g1;have g2:DataW.trod enc Try.prog W 0 spare held n 3 ((cs.drop 2).take (Try.prog.cellsOf 3))=xs[2]? :=hf 2 _ rfl
 rw[show Try.prog.cellsOf 3=1 by kernel_rfl,List.getElem?_eq_getElem (by rw[hxl];decide)] at g2
 obtain ⟨d2,h2,q2⟩:=(Zm Try.underlying3) H enc spare held n _ _ g2;have g3:DataW.trod enc Try.prog W 0 spare held n 3 ((cs.drop 3).take (Try.prog.cellsOf 3))=xs[3]? :=hf 3 _ rfl
 rw[show Try.prog.cellsOf 3=1 by kernel_rfl,List.getElem?_eq_getElem (by rw[hxl];decide)] at g3
 obtain ⟨d3,h3,q3⟩:=(Zm Try.underlying3) H enc spare held n _ _ g3;have e0:cs.drop 0=(cs.drop 0).take 1++cs.drop 1:=Y6 rfl;have e1:cs.drop 1=(cs.drop 1).take 1++cs.drop 2:=Y6 rfl;have e2:cs.drop 2=(cs.drop 2).take 1++cs.drop 3:=Y6 rfl;have e3:cs.drop 3=(cs.drop 3).take 1++cs.drop 4:=Y6 rfl;have en:cs.drop 4=[]:=List.drop_of_length_le (by omega);have hcs:cs.drop 0=_:=e0
 rw[e1,e2,e3,en,show (cs.drop 0).take 1=_ from h0,show (cs.drop 1).take 1=_ from h1,show (cs.drop 2).take 1=_ from h2,show (cs.drop 3).take 1=_ from h3] at hcs
 exact ⟨⟨d0,d1,d2,d3⟩,hcs,q0,q1,q2,q3⟩
theorem QeN {W:World}:Opn Try.prog W 24 Qgg QcB:=by
 intro H enc spare held fuel cs x h;obtain ⟨xs,n,_,_,hlen,hxl,hf⟩:=DataW.trod_struct Try.underlying24 h
 rw[show Try.prog.cellsOf 24=2 by kernel_rfl] at hlen
 have g0:DataW.trod enc Try.prog W 0 spare held n 3 ((cs.drop 0).take (Try.prog.cellsOf 3))=xs[0]? :=hf 0 _ rfl
 rw[show Try.prog.cellsOf 3=1 by kernel_rfl,List.getElem?_eq_getElem (by rw[hxl];decide)] at g0
 obtain ⟨d0,h0,q0⟩:=(Zm Try.underlying3) H enc spare held n _ _ g0;have g1:DataW.trod enc Try.prog W 0 spare held n 22 ((cs.drop 1).take (Try.prog.cellsOf 22))=xs[1]? :=hf 1 _ rfl
 rw[show Try.prog.cellsOf 22=1 by kernel_rfl,List.getElem?_eq_getElem (by rw[hxl];decide)] at g1
 obtain ⟨d1,h1,q1⟩:=(QaV Try.underlying22 (by kernel_rfl) QeM) H enc spare held n _ _ g1;have e0:cs.drop 0=(cs.drop 0).take 1++cs.drop 1:=Y6 rfl;have e1:cs.drop 1=(cs.drop 1).take 1++cs.drop 2:=Y6 rfl;have en:cs.drop 2=[]:=List.drop_of_length_le (by omega);obtain ⟨A0,c0,h1,hl0,hm0,ha0⟩:=h1;have hcs:cs.drop 0=_:=e0
 rw[e1,en,show (cs.drop 0).take 1=_ from h0,show (cs.drop 1).take 1=_ from h1] at hcs
 exact ⟨⟨d0,d1⟩,⟨A0,c0,hcs,⟨hl0,hm0⟩,ha0⟩,q0,q1⟩
theorem Qaz {W:World}:Opn Try.prog W 64 QeQ VB:=by
 intro H enc spare held fuel cs x h;obtain ⟨xs,n,_,_,hlen,hxl,hf⟩:=DataW.trod_struct Try.underlying64 h
 rw[show Try.prog.cellsOf 64=2 by kernel_rfl] at hlen
 have g0:DataW.trod enc Try.prog W 0 spare held n 3 ((cs.drop 0).take (Try.prog.cellsOf 3))=xs[0]? :=hf 0 _ rfl
 rw[show Try.prog.cellsOf 3=1 by kernel_rfl,List.getElem?_eq_getElem (by rw[hxl];decide)] at g0
 obtain ⟨d0,h0,q0⟩:=(Zm Try.underlying3) H enc spare held n _ _ g0;have g1:DataW.trod enc Try.prog W 0 spare held n 3 ((cs.drop 1).take (Try.prog.cellsOf 3))=xs[1]? :=hf 1 _ rfl
 rw[show Try.prog.cellsOf 3=1 by kernel_rfl,List.getElem?_eq_getElem (by rw[hxl];decide)] at g1
 obtain ⟨d1,h1,q1⟩:=(Zm Try.underlying3) H enc spare held n _ _ g1;have e0:cs.drop 0=(cs.drop 0).take 1++cs.drop 1:=Y6 rfl;have e1:cs.drop 1=(cs.drop 1).take 1++cs.drop 2:=Y6 rfl;have en:cs.drop 2=[]:=List.drop_of_length_le (by omega);have hcs:cs.drop 0=_:=e0
 rw[e1,en,show (cs.drop 0).take 1=_ from h0,show (cs.drop 1).take 1=_ from h1] at hcs
 exact ⟨⟨d0,d1⟩,hcs,q0,q1⟩
theorem QcL {W:World}:Opn Try.prog W 66 Qv QaN:=by
 intro H enc spare held fuel cs x h;obtain ⟨xs,n,_,_,hlen,hxl,hf⟩:=DataW.trod_struct Try.underlying66 h
 rw[show Try.prog.cellsOf 66=6 by kernel_rfl] at hlen
 have g0:DataW.trod enc Try.prog W 0 spare held n 9 ((cs.drop 0).take (Try.prog.cellsOf 9))=xs[0]? :=hf 0 _ rfl
 rw[show Try.prog.cellsOf 9=1 by kernel_rfl,List.getElem?_eq_getElem (by rw[hxl];decide)] at g0
 obtain ⟨d0,h0,q0⟩:=(Qi0 Try.underlying9) H enc spare held n _ _ g0;have g1:DataW.trod enc Try.prog W 0 spare held n 3 ((cs.drop 1).take (Try.prog.cellsOf 3))=xs[1]? :=hf 1 _ rfl
 rw[show Try.prog.cellsOf 3=1 by kernel_rfl,List.getElem?_eq_getElem (by rw[hxl];decide)] at g1
 obtain ⟨d1,h1,q1⟩:=(Zm Try.underlying3) H enc spare held n _ _ g1;have g2:DataW.trod enc Try.prog W 0 spare held n 64 ((cs.drop 2).take (Try.prog.cellsOf 64))=xs[2]? :=hf 2 _ rfl
 rw[show Try.prog.cellsOf 64=2 by kernel_rfl,List.getElem?_eq_getElem (by rw[hxl];decide)] at g2
 obtain ⟨d2,h2,q2⟩:=Qaz H enc spare held n _ _ g2;have g3:DataW.trod enc Try.prog W 0 spare held n 3 ((cs.drop 4).take (Try.prog.cellsOf 3))=xs[3]? :=hf 3 _ rfl
 rw[show Try.prog.cellsOf 3=1 by kernel_rfl,List.getElem?_eq_getElem (by rw[hxl];decide)] at g3
 obtain ⟨d3,h3,q3⟩:=(Zm Try.underlying3) H enc spare held n _ _ g3;have g4:DataW.trod enc Try.prog W 0 spare held n 3 ((cs.drop 5).take (Try.prog.cellsOf 3))=xs[4]? :=hf 4 _ rfl
 rw[show Try.prog.cellsOf 3=1 by kernel_rfl,List.getElem?_eq_getElem (by rw[hxl];decide)] at g4
 obtain ⟨d4,h4,q4⟩:=(Zm Try.underlying3) H enc spare held n _ _ g4;have e0:cs.drop 0=(cs.drop 0).take 1++cs.drop 1:=Y6 rfl;have e1:cs.drop 1=(cs.drop 1).take 1++cs.drop 2:=Y6 rfl;have e2:cs.drop 2=(cs.drop 2).take 2++cs.drop 4:=Y6 rfl;have e3:cs.drop 4=(cs.drop 4).take 1++cs.drop 5:=Y6 rfl;have e4:cs.drop 5=(cs.drop 5).take 1++cs.drop 6:=Y6 rfl;have en:cs.drop 6=[]:=List.drop_of_length_le (by omega);have hcs:cs.drop 0=_:=e0
 rw[e1,e2,e3,e4,en,show (cs.drop 0).take 1=_ from h0,show (cs.drop 1).take 1=_ from h1,show (cs.drop 2).take 2=_ from h2,show (cs.drop 4).take 1=_ from h3,show (cs.drop 5).take 1=_ from h4] at hcs
 exact ⟨⟨d0,d1,d2,d3,d4⟩,hcs,q0,q1,q2,q3,q4⟩
theorem Qdr {W:World}:Opn Try.prog W 79 Qw Qbc:=by
 intro H enc spare held fuel cs x h;obtain ⟨xs,n,_,_,hlen,hxl,hf⟩:=DataW.trod_struct Try.underlying79 h
 rw[show Try.prog.cellsOf 79=7 by kernel_rfl] at hlen
 have g0:DataW.trod enc Try.prog W 0 spare held n 3 ((cs.drop 0).take (Try.prog.cellsOf 3))=xs[0]? :=hf 0 _ rfl
 rw[show Try.prog.cellsOf 3=1 by kernel_rfl,List.getElem?_eq_getElem (by rw[hxl];decide)] at g0
 obtain ⟨d0,h0,q0⟩:=(Zm Try.underlying3) H enc spare held n _ _ g0;have g1:DataW.trod enc Try.prog W 0 spare held n 3 ((cs.drop 1).take (Try.prog.cellsOf 3))=xs[1]? :=hf 1 _ rfl
 rw[show Try.prog.cellsOf 3=1 by kernel_rfl,List.getElem?_eq_getElem (by rw[hxl];decide)] at g1
 obtain ⟨d1,h1,q1⟩:=(Zm Try.underlying3) H enc spare held n _ _ g1;have g2:DataW.trod enc Try.prog W 0 spare held n 3 ((cs.drop 2).take (Try.prog.cellsOf 3))=xs[2]? :=hf 2 _ rfl
 rw[show Try.prog.cellsOf 3=1 by kernel_rfl,List.getElem?_eq_getElem (by rw[hxl];decide)] at g2
 obtain ⟨d2,h2,q2⟩:=(Zm Try.underlying3) H enc spare held n _ _ g2;have g3:DataW.trod enc Try.prog W 0 spare held n 3 ((cs.drop 3).take (Try.prog.cellsOf 3))=xs[3]? :=hf 3 _ rfl
 rw[show Try.prog.cellsOf 3=1 by kernel_rfl,List.getElem?_eq_getElem (by rw[hxl];decide)] at g3
 obtain ⟨d3,h3,q3⟩:=(Zm Try.underlying3) H enc spare held n _ _ g3;have g4:DataW.trod enc Try.prog W 0 spare held n 64 ((cs.drop 4).take (Try.prog.cellsOf 64))=xs[4]? :=hf 4 _ rfl
 rw[show Try.prog.cellsOf 64=2 by kernel_rfl,List.getElem?_eq_getElem (by rw[hxl];decide)] at g4
 obtain ⟨d4,h4,q4⟩:=Qaz H enc spare held n _ _ g4;have g5:DataW.trod enc Try.prog W 0 spare held n 3 ((cs.drop 6).take (Try.prog.cellsOf 3))=xs[5]? :=hf 5 _ rfl
 rw[show Try.prog.cellsOf 3=1 by kernel_rfl,List.getElem?_eq_getElem (by rw[hxl];decide)] at g5
 obtain ⟨d5,h5,q5⟩:=(Zm Try.underlying3) H enc spare held n _ _ g5;have e0:cs.drop 0=(cs.drop 0).take 1++cs.drop 1:=Y6 rfl;have e1:cs.drop 1=(cs.drop 1).take 1++cs.drop 2:=Y6 rfl;have e2:cs.drop 2=(cs.drop 2).take 1++cs.drop 3:=Y6 rfl;have e3:cs.drop 3=(cs.drop 3).take 1++cs.drop 4:=Y6 rfl;have e4:cs.drop 4=(cs.drop 4).take 2++cs.drop 6:=Y6 rfl;have e5:cs.drop 6=(cs.drop 6).take 1++cs.drop 7:=Y6 rfl;have en:cs.drop 7=[]:=List.drop_of_length_le (by omega);have hcs:cs.drop 0=_:=e0
 rw[e1,e2,e3,e4,e5,en,show (cs.drop 0).take 1=_ from h0,show (cs.drop 1).take 1=_ from h1,show (cs.drop 2).take 1=_ from h2,show (cs.drop 3).take 1=_ from h3,show (cs.drop 4).take 2=_ from h4,show (cs.drop 6).take 1=_ from h5] at hcs
 exact ⟨⟨d0,d1,d2,d3,d4,d5⟩,hcs,q0,q1,q2,q3,q4,q5⟩
theorem QcK {W:World}:Opn Try.prog W 28 QdM QaM:=by
 intro H enc spare held fuel cs x h;obtain ⟨xs,n,_,_,hlen,hxl,hf⟩:=DataW.trod_struct Try.underlying28 h
 rw[show Try.prog.cellsOf 28=6 by kernel_rfl] at hlen
 have g0:DataW.trod enc Try.prog W 0 spare held n 24 ((cs.drop 0).take (Try.prog.cellsOf 24))=xs[0]? :=hf 0 _ rfl
 rw[show Try.prog.cellsOf 24=2 by kernel_rfl,List.getElem?_eq_getElem (by rw[hxl];decide)] at g0
 obtain ⟨d0,h0,q0⟩:=QeN H enc spare held n _ _ g0;have g1:DataW.trod enc Try.prog W 0 spare held n 25 ((cs.drop 2).take (Try.prog.cellsOf 25))=xs[1]? :=hf 1 _ rfl
 rw[show Try.prog.cellsOf 25=1 by kernel_rfl,List.getElem?_eq_getElem (by rw[hxl];decide)] at g1
 obtain ⟨d1,h1,q1⟩:=(QaV Try.underlying25 (by kernel_rfl) QcL) H enc spare held n _ _ g1;have g2:DataW.trod enc Try.prog W 0 spare held n 26 ((cs.drop 3).take (Try.prog.cellsOf 26))=xs[2]? :=hf 2 _ rfl
 rw[show Try.prog.cellsOf 26=1 by kernel_rfl,List.getElem?_eq_getElem (by rw[hxl];decide)] at g2
 obtain ⟨d2,h2,q2⟩:=(QaV Try.underlying26 (by kernel_rfl) Qdr) H enc spare held n _ _ g2;have g3:DataW.trod enc Try.prog W 0 spare held n 3 ((cs.drop 4).take (Try.prog.cellsOf 3))=xs[3]? :=hf 3 _ rfl
 rw[show Try.prog.cellsOf 3=1 by kernel_rfl,List.getElem?_eq_getElem (by rw[hxl];decide)] at g3
 obtain ⟨d3,h3,q3⟩:=(Zm Try.underlying3) H enc spare held n _ _ g3;have g4:DataW.trod enc Try.prog W 0 spare held n 3 ((cs.drop 5).take (Try.prog.cellsOf 3))=xs[4]? :=hf 4 _ rfl
 rw[show Try.prog.cellsOf 3=1 by kernel_rfl,List.getElem?_eq_getElem (by rw[hxl];decide)] at g4
 obtain ⟨d4,h4,q4⟩:=(Zm Try.underlying3) H enc spare held n _ _ g4;have e0:cs.drop 0=(cs.drop 0).take 2++cs.drop 2:=Y6 rfl;have e1:cs.drop 2=(cs.drop 2).take 1++cs.drop 3:=Y6 rfl;have e2:cs.drop 3=(cs.drop 3).take 1++cs.drop 4:=Y6 rfl;have e3:cs.drop 4=(cs.drop 4).take 1++cs.drop 5:=Y6 rfl;have e4:cs.drop 5=(cs.drop 5).take 1++cs.drop 6:=Y6 rfl;have en:cs.drop 6=[]:=List.drop_of_length_le (by omega);obtain ⟨A0,c0,h0,hl0,ha0⟩:=h0;obtain ⟨A1,c1,h1,hl1,hm1,ha1⟩:=h1;obtain ⟨A2,c2,h2,hl2,hm2,ha2⟩:=h2;have hcs:cs.drop 0=_:=e0
 rw[e1,e2,e3,e4,en,show (cs.drop 0).take 2=_ from h0,show (cs.drop 2).take 1=_ from h1,show (cs.drop 3).take 1=_ from h2,show (cs.drop 4).take 1=_ from h3,show (cs.drop 5).take 1=_ from h4] at hcs
 exact ⟨⟨d0,d1,d2,d3,d4⟩,⟨A0,c0,A1,c1,A2,c2,hcs,hl0,ha0,⟨hl1,hm1⟩,ha1,⟨hl2,hm2⟩,ha2⟩,q0,q1,q2,q3,q4⟩
theorem VJ {W:World}:Opn Try.prog W 31 Qaj We:=by
 intro H enc spare held fuel cs x h;obtain ⟨xs,n,_,_,hlen,hxl,hf⟩:=DataW.trod_struct Try.underlying31 h
 rw[show Try.prog.cellsOf 31=8 by kernel_rfl] at hlen
 have g0:DataW.trod enc Try.prog W 0 spare held n 28 ((cs.drop 0).take (Try.prog.cellsOf 28))=xs[0]? :=hf 0 _ rfl
 rw[show Try.prog.cellsOf 28=6 by kernel_rfl,List.getElem?_eq_getElem (by rw[hxl];decide)] at g0
 obtain ⟨d0,h0,q0⟩:=QcK H enc spare held n _ _ g0;have g1:DataW.trod enc Try.prog W 0 spare held n 3 ((cs.drop 6).take (Try.prog.cellsOf 3))=xs[1]? :=hf 1 _ rfl
 rw[show Try.prog.cellsOf 3=1 by kernel_rfl,List.getElem?_eq_getElem (by rw[hxl];decide)] at g1
 obtain ⟨d1,h1,q1⟩:=(Zm Try.underlying3) H enc spare held n _ _ g1;have g2:DataW.trod enc Try.prog W 0 spare held n 29 ((cs.drop 7).take (Try.prog.cellsOf 29))=xs[2]? :=hf 2 _ rfl
 rw[show Try.prog.cellsOf 29=1 by kernel_rfl,List.getElem?_eq_getElem (by rw[hxl];decide)] at g2
 obtain ⟨d2,h2,q2⟩:=(QaV Try.underlying29 (by kernel_rfl) (Zm Try.underlying3)) H enc spare held n _ _ g2;have e0:cs.drop 0=(cs.drop 0).take 6++cs.drop 6:=Y6 rfl;have e1:cs.drop 6=(cs.drop 6).take 1++cs.drop 7:=Y6 rfl;have e2:cs.drop 7=(cs.drop 7).take 1++cs.drop 8:=Y6 rfl;have en:cs.drop 8=[]:=List.drop_of_length_le (by omega);obtain ⟨A0,c0,A1,c1,A2,c2,h0,hl0,ha0,hl1,ha1,hl2,ha2⟩:=h0;obtain ⟨A3,c3,h2,hl3,hm3,ha3⟩:=h2;have hcs:cs.drop 0=_:=e0
 rw[e1,e2,en,show (cs.drop 0).take 6=_ from h0,show (cs.drop 6).take 1=_ from h1,show (cs.drop 7).take 1=_ from h2] at hcs
 exact ⟨⟨d0,d1,d2⟩,⟨A0,c0,A1,c1,A2,c2,A3,c3,hcs,hl0,ha0,hl1,ha1,hl2,ha2,⟨hl3,hm3⟩,ha3⟩,q0,q1,q2⟩
set_option maxRecDepth 100000 in
theorem QbF (os:Os) (started:os.Started) (H:Type) (enc:TypeId×Value→H) :
  ReturnsInHanded {} Try.checked os 6 .any (Rows.exactFewerSpec.pre6 enc Try.prog Try.f6 Rows.exactFewerRow.domain false) (Rows.exactFewerSpec.post enc Try.prog Try.f6 false true false false):=by
 refine returnsInHanded_of_change (C:=Try.checked) QkF started (by kernel_rfl) Try.func6
  (ChangeSpec.witness6 (enc:=enc) (C:=Try.checked) false ⟨#[], #[((Go.Value.agg #[(Go.Value.int Go.IntKind.i64 0),(Go.Value.slice none 0 0),(Go.Value.slice none 0 0),(Go.Value.slice none 0 0),(Go.Value.int Go.IntKind.i64 0),(Go.Value.int Go.IntKind.i64 0),(Go.Value.int Go.IntKind.i64 0),(Go.Value.slice none 0 0)])),(.int .u8 0)],[]⟩ 8 (by kernel_rfl) (by kernel_rfl) (by kernel_rfl) (by kernel_rfl)) ?_
 intro W base args ds gs before hval0 hW hcnd _;have hval: ∀(j:Nat) t v,Try.f6.params[j]? =some t→args[j]? =some v→Value.okWide Try.prog W .any base t v:=hval0;have hW':=hW;obtain ⟨p,q,hA0,hV,rfl,hfz,hnd⟩:=hW;have hA:DataW.TrodAll enc Try.prog W 0 (fun _=>true) true Try.f6.params.toList args.toList ds p:=hA0
 rw[Try.params6] at hA hval
 obtain ⟨rfl,rfl⟩:=trodVars_none hV
 clear hA0 hval0
 obtain ⟨v0,v1,d0,d1,p0,p1,rfl,rfl,rfl,a0,a1⟩:=trodAll_two hA;obtain ⟨cs0,rfl,_⟩:=okWide_struct Try.underlying31 (hval 0 31 v0 rfl rfl);obtain ⟨fu0,ht0⟩:=a0;obtain ⟨x0,hr0,q0⟩:=VJ (W:=W) H enc _ _ fu0 _ _ ht0;obtain ⟨A0_0,c0_0,A0_1,c0_1,A0_2,c0_2,A0_3,c0_3,hcs0,hl0_0,ha0_0,hl0_1,ha0_1,hl0_2,ha0_2,hl0_3,ha0_3⟩:=hr0;obtain rfl:=Qhy hcs0;obtain ⟨x1,rfl,_,_,q1⟩:=open_int (P:=Try.prog) Try.underlying5 (hval 1 5 v1 rfl rfl) a1;obtain ⟨F,hF⟩:=Wn x0 x1 q0 q1;refine (Qfd (v:= .bool true) Try.func6 rfl (args:=[_,_]) (WI hl0_0 ha0_0 hl0_1 ha0_1 hl0_2 ha0_2 hl0_3 ha0_3 hF (fun _ _=>rfl))).mono fun e W' ⟨he,hw⟩=> ?_;exact ⟨_,he,Qhn (tb:=4) hW' rfl rfl Try.underlying4 rfl rfl rfl Qh3 (by decide +kernel) hw⟩
theorem exactFewer_holds:Rows.ExactFewerSaid :=
 OpenClaim.holds_of_wide 6 Try.f6 rfl rfl rfl rfl rfl rfl rfl ⟨rfl,rfl,rfl,rfl,rfl⟩ rfl rfl rfl rfl rfl (by kernel_rfl) Try.func6 (by kernel_rfl)
  (of_decide_eq_true (by kernel_rfl)) (by unfold Func.isWrapper;first | (rw[if_pos (by decide +kernel)];kernel_rfl) | (rw[if_neg (by decide +kernel)];exact ⟨rfl,rfl⟩))
  (fun os started H enc _=>QbF os started H enc)
end Go.Proofs.Ytilbengnjgglhaa
