/- Texts for the law: A1g. -/
import Derived.Test.YtccnpbnokndeeaaGreatDoorM9
noncomputable section
open Option renaming bind→β
open Sum renaming inr→ι,inl→κ
namespace Go.Proofs.YtccnpbnokndeeaaGreatDoor
open Go Go.Ab
set_option maxRecDepth 20000
set_option maxHeartbeats 1000000
def zL (p:List a7) (e:a7) (vv:Int) (qC:List a7):Option ((Int×(List a7))⊕(List a7)):=
 (bif(decide (vv<((p.length:Nat):Int))) then(β (aK p vv) (fun e1=>(β (aK qC vv) (fun e2=>some (κ ((U (vv+1)),bp qC vv (⟨U ((U (e.X*e1.X)) -(U (e.Y*e1.Y))),U ((U (e.Y*e1.X))+(U (e.X*e1.Y)))⟩:a7))))))) else some (ι qC))
def CJ (p:List a7) (e_:Int):Option (List a7):=
 (β (Gs p) (fun cv=>(bif(!cv) then some ([]) else(β (aK [(⟨1,0⟩:a7),(⟨0,1⟩:a7),(⟨-1,0⟩:a7),(⟨0,-1⟩:a7)] (Int.tmod (U ((Int.tmod e_ 4)+4)) 4)) (fun e=>(β (lh 16 (⟨0,0⟩:a7) ((p.length:Nat):Int)) (fun m=>(β ((bR (fun q=>zL p e q.1 q.2) (0,m)):Option (List a7)) (fun result=>some result)))))))))
theorem anc (p:List a7) (e_:Int) (r:List a7) (h:CJ p e_=some r):Holds Tryz.prog 126 [(aj bd) p,I e_] [] ((aj bd) r) []:=by
 unfold CJ at h;refine bO Tryz.func126 rfl Tryz.ntmps126 rfl rfl rfl (fun lim=>?_);refine ab 1 rfl (aD (au 1 rfl ?_));obtain⟨cv,cj,h⟩:=ai h;refine aW ai0 (anb p cv cj) rfl rfl rfl rfl rfl rfl rfl ?_;refine ah 1 rfl ?_;refine ar (b:=!cv) rfl (fun c2=>?_) (fun c2=>?_)
 ·replace h:=ak h c2;refine ab 1 rfl (Ze ?_);have e3:=ae h;subst e3;refine ao ?_;refine aw aa rfl rfl ?_;exact ei
 ·replace h:=an h c2;refine Zk (au 4 rfl ?_);obtain⟨e,fy,h⟩:=ai h;refine ake bd [(⟨1,0⟩:a7),(⟨0,1⟩:a7),(⟨-1,0⟩:a7),(⟨0,-1⟩:a7)] (Int.tmod (U ((Int.tmod e_ 4)+4)) 4) e fy aa rfl rfl rfl rfl rfl rfl (fun _=>rfl) rfl rfl rfl rfl ?_;refine ah 3 rfl (au 1 rfl ?_);refine bS bd p aa rfl rfl rfl rfl rfl rfl ?_;obtain⟨m,gg,h⟩:=ai h;refine By bd (⟨0,0⟩:a7) ((p.length:Nat):Int) m gg aa rfl rfl rfl rfl rfl rfl rfl rfl rfl rfl rfl rfl rfl ?_;refine ah 1 rfl ?_;obtain⟨y,gU,h⟩:=ai h;refine cx (X:=List a7) [] [] (fun w=>[(6,.arr 20 0 w.length)]) (fun w=>[(20,some ⟨94,2,w.map bd⟩)]) (fun w=>w=y) rfl rfl ?_ ?_
  ·skip;refine au 1 rfl ?_;refine bS bd p aa rfl rfl rfl rfl rfl rfl ?_;refine ah 1 rfl (bn ?_);refine cN (X:=Int×(List a7)) (Y:=List a7) [5,21,22] [5] (fun q=>[(23,I q.1),(6,.arr 20 0 q.2.length)]) (fun q=>[(20,some ⟨94,2,q.2.map bd⟩)]) (fun q=>zL p e q.1 q.2) (0,m) [(20,some 20),(5,some 5)] gU ⟨rfl,rfl,rfl,rfl,rfl,⟨J _ rfl,⟨rfl,rfl,rfl⟩,trivial⟩,⟨⟨_,rfl,rfl,rfl,aC (enc:=bd) m (fun _=>rfl)⟩,trivial⟩⟩ (fun x vR vz d_ qc=>?_);obtain⟨vv,qC⟩:=x;change zL p e vv qC=_ at d_;unfold zL at d_;refine ab 1 rfl (aD ?_);refine ar (b:=decide (vv<((p.length:Nat):Int))) rfl (fun eK=>?_) (fun eK=>?_)
   ·replace d_:=ak d_ eK;refine Zk (aD (bn (au 1 rfl ?_)));obtain⟨e1,fF,d_⟩:=ai d_;refine cq bd p vv e1 fF aa rfl rfl rfl rfl rfl rfl rfl rfl rfl ?_;refine ah 4 rfl (aY 25 rfl ?_);obtain⟨e2,fS,d_⟩:=ai d_;refine eO bd qC vv e2 fS rfl aa rfl rfl rfl rfl rfl rfl rfl rfl rfl rfl ?_;refine jy bd qC vv e2 (⟨U ((U (e.X*e1.X)) -(U (e.Y*e1.Y))),U ((U (e.Y*e1.X))+(U (e.X*e1.Y)))⟩:a7) fS aa rfl rfl rfl rfl rfl rfl rfl rfl rfl rfl rfl rfl ?_;refine aI nd (bP (aq (aY 2 rfl (aI nd ?_))));have dQ:=ae d_;subst dQ;refine aq ⟨rfl,((U (vv+1)),bp qC vv (⟨U ((U (e.X*e1.X)) -(U (e.Y*e1.Y))),U ((U (e.Y*e1.X))+(U (e.X*e1.Y)))⟩:a7)),[(20,some 20),(5,some 5)],⟨rfl,rfl,rfl,rfl,rfl,⟨J _ rfl,⟨rfl,rfl,(by first|rfl|(simp [bp];done)|omega|(dsimp only;omega)|(simp [bp];omega))⟩,trivial⟩,⟨⟨_,rfl,rfl,rfl,aC (enc:=bd) (bp qC vv (⟨U ((U (e.X*e1.X)) -(U (e.Y*e1.Y))),U ((U (e.Y*e1.X))+(U (e.X*e1.Y)))⟩:a7)) (fun _=>rfl)⟩,trivial⟩⟩,qc⟩
   ·replace d_:=an d_ eK;refine cD (bg ?_);obtain⟨t,ji,hq⟩:=bf d_;subst hq;have hq:t=_:=qc;subst hq;refine bg (cE ?_);have fx:=ae ji;refine aq ⟨rfl,qC,[(20,some 20)],⟨rfl,rfl,rfl,rfl,rfl,⟨⟨rfl,rfl,(by first|rfl|(simp [bp];done)|omega|(dsimp only;omega)|(simp [bp];omega))⟩,trivial⟩,⟨⟨_,rfl,rfl,rfl,aC (enc:=bd) qC (fun _=>rfl)⟩,trivial⟩⟩,fx⟩
  ·intro result qd;subst qd;refine ab 2 rfl ?_;refine gJ [] [] [(20,some ⟨94,2,result.map bd⟩)] [] [(4,aj bd result)] [] rfl rfl rfl rfl rfl ⟨rfl,by decide,trivial⟩ ⟨eW rfl (by first|rfl|(simp [bp];done)|omega|(dsimp only;omega)|(simp [bp];omega)) (fun _=>rfl),trivial⟩ trivial ?_
   refine aR ?_;have fw:=ae h;subst fw;refine ao ?_;refine aw aa rfl rfl ?_;exact(ag _ rfl)
def zM (vr:dc) (vv:Int) (jR:List a7):Option ((Int×(List a7))⊕(List a7)):=
 (bif(decide (vv<((vr.Read.length:Nat):Int))) then(β (aK vr.Read vv) (fun e=>(β (aK jR vv) (fun e1=>some (κ ((U (vv+1)),bp jR vv e.P_)))))) else some (ι jR))
def zN (tv:List a7) (aB:Int) (l:List eJ):Option ((Int×(List eJ))⊕(List eJ)):=
 (bif(decide (aB<((tv.length:Nat):Int))) then(β (aK tv aB) (fun e2=>(β (aK l aB) (fun e3=>some (κ ((U (aB+1)),bp l aB (⟨e2,e3.Ok⟩:eJ))))))) else some (ι l))
def CK (vr:dc) (e_:Int):Option dc:=
 (β (zJ vr) (fun cv=>(β (uO vr) (fun cA=>(bif(cA !=0) then some cv else(β (lh 16 (⟨0,0⟩:a7) ((vr.Read.length:Nat):Int)) (fun m=>(β ((bR (fun q=>zM vr q.1 q.2) (0,m)):Option (List a7)) (fun points=>(β ((β (CJ points e_) (fun tv=>(bR (fun q=>zN tv q.1 q.2) (0,cv.Read)))):Option (List eJ)) (fun nI=>some (⟨cv.Z,nI⟩:dc))))))))))))
theorem ane (vr:dc) (e_:Int) (r:dc) (h:CK vr e_=some r):Holds Tryz.prog 72 [dy vr,I e_] [] (dy r) []:=by
 unfold CK at h;refine bO Tryz.func72 rfl Tryz.ntmps72 rfl rfl rfl (fun lim=>?_);refine ab 2 rfl (au 1 rfl ?_);obtain⟨cv,cj,h⟩:=ai h;refine eP (.agg [I cv.Z,.arr 600 0 cv.Read.length]) [] [(600,some ⟨96,3,cv.Read.map cT⟩)] [] [(600,some 998)] VB (X8 vr cv cj) rfl rfl rfl rfl rfl trivial ⟨ag _ rfl,trivial⟩ rfl rfl trivial rfl rfl ⟨⟨_,rfl,rfl,rfl,aC (enc:=cT) cv.Read (fun _=>rfl)⟩,trivial⟩ ⟨J _ rfl,⟨rfl,rfl,rfl⟩,trivial⟩ rfl (fun h=>absurd rfl h) rfl rfl rfl ?_;refine ah 2 rfl (aD (au 1 rfl ?_));obtain⟨cA,g_,h⟩:=ai h;refine aW Fc (Gn vr cA g_) rfl rfl rfl rfl rfl rfl rfl ?_;refine ah 1 rfl ?_;refine ar (b:=cA !=0) rfl (fun c3=>?_) (fun c3=>?_)
 ·replace h:=ak h c3;refine ab 2 rfl ?_;refine gJ [4] [] [(600,some ⟨96,3,cv.Read.map cT⟩)] [(4,some 4)] [] [(4,some ⟨92,2,[.agg [I cv.Z,aj cT cv.Read]]⟩)] rfl rfl rfl rfl rfl ⟨rfl,by decide,trivial⟩ trivial ⟨⟨_,rfl,rfl,rfl,.inr ⟨⟨⟨J _ rfl,eW rfl rfl (fun _=>rfl),trivial⟩,trivial⟩,⟨rfl,trivial⟩⟩⟩,trivial⟩ ?_;refine Ze ?_;have e4:=ae h;subst e4;refine ao ?_;refine aw aa rfl rfl ?_;exact(ag _ rfl)
 ·replace h:=an h c3;refine Zk (au 2 rfl ?_);refine bS cT vr.Read aa rfl rfl rfl rfl rfl rfl ?_;obtain⟨m,gg,h⟩:=ai h;refine By bd (⟨0,0⟩:a7) ((vr.Read.length:Nat):Int) m gg aa rfl rfl rfl rfl rfl rfl rfl rfl rfl rfl rfl rfl rfl ?_;refine ah 1 rfl ?_;obtain⟨y,gU,h⟩:=ai h;refine cx (X:=List a7) [1,4,5] [4] (fun w=>[(6,.arr 20 0 w.length)]) (fun w=>[(20,some ⟨94,2,w.map bd⟩),(600,some ⟨96,3,cv.Read.map cT⟩),(5,some ⟨92,2,[.agg [I cv.Z,.arr 600 0 cv.Read.length]]⟩)]) (fun w=>w=y) rfl rfl ?_ ?_
  ·skip;refine au 2 rfl ?_;refine bS cT vr.Read aa rfl rfl rfl rfl rfl rfl ?_;refine ah 1 rfl (bn ?_);refine cN (X:=Int×(List a7)) (Y:=List a7) [1,4,5,22,23] [4] (fun q=>[(24,I q.1),(6,.arr 20 0 q.2.length)]) (fun q=>[(20,some ⟨94,2,q.2.map bd⟩),(5,some ⟨92,2,[.agg [I cv.Z,.arr 600 0 cv.Read.length]]⟩),(600,some ⟨96,3,cv.Read.map cT⟩)]) (fun q=>zM vr q.1 q.2) (0,m) [(20,some 20),(5,some 5),(600,some 600),(4,some 4)] gU ⟨rfl,rfl,rfl,rfl,rfl,⟨J _ rfl,⟨rfl,rfl,rfl⟩,trivial⟩,⟨⟨_,rfl,rfl,rfl,aC (enc:=bd) m (fun _=>rfl)⟩,⟨_,rfl,rfl,rfl,.inr ⟨⟨⟨J _ rfl,⟨rfl,rfl,rfl⟩,trivial⟩,trivial⟩,⟨rfl,trivial⟩⟩⟩,⟨_,rfl,rfl,rfl,aC (enc:=cT) cv.Read (fun _=>rfl)⟩,trivial⟩⟩ (fun x vR vz d_ qc=>?_);obtain⟨vv,jR⟩:=x;change zM vr vv jR=_ at d_;unfold zM at d_;refine ab 1 rfl (aD ?_);refine ar (b:=decide (vv<((vr.Read.length:Nat):Int))) rfl (fun eK=>?_) (fun eK=>?_)
   ·replace d_:=ak d_ eK;refine Zk (aD (bn (au 1 rfl ?_)));obtain⟨e,fF,d_⟩:=ai d_;refine cq cT vr.Read vv e fF aa rfl rfl rfl rfl rfl rfl rfl rfl rfl ?_;refine ah 4 rfl (aY 4 rfl ?_);obtain⟨e1,fS,d_⟩:=ai d_;refine eO bd jR vv e1 fS rfl aa rfl rfl rfl rfl rfl rfl rfl rfl rfl rfl ?_;refine jy bd jR vv e1 e.P_ fS aa rfl rfl rfl rfl rfl rfl rfl rfl rfl rfl rfl rfl ?_;refine aI nd (bP (aq (aY 2 rfl (aI nd ?_))));have dQ:=ae d_;subst dQ;refine aq ⟨rfl,((U (vv+1)),bp jR vv e.P_),[(20,some 20),(5,some 5),(600,some 600),(4,some 4)],⟨rfl,rfl,rfl,rfl,rfl,⟨J _ rfl,⟨rfl,rfl,(by first|rfl|(simp [bp];done)|omega|(dsimp only;omega)|(simp [bp];omega))⟩,trivial⟩,⟨⟨_,rfl,rfl,rfl,aC (enc:=bd) (bp jR vv e.P_) (fun _=>rfl)⟩,⟨_,rfl,rfl,rfl,.inr ⟨⟨⟨J _ rfl,⟨rfl,rfl,(by first|rfl|(simp [bp];done)|omega|(dsimp only;omega)|(simp [bp];omega))⟩,trivial⟩,trivial⟩,⟨rfl,trivial⟩⟩⟩,⟨_,rfl,rfl,rfl,aC (enc:=cT) cv.Read (fun _=>rfl)⟩,trivial⟩⟩,qc⟩
   ·replace d_:=an d_ eK;refine cD (bg ?_);obtain⟨t,ji,hq⟩:=bf d_;subst hq;have hq:t=_:=qc;subst hq;refine bg (cE ?_);have fx:=ae ji;refine aq ⟨rfl,jR,[(20,some 20),(600,some 600),(5,some 5),(4,some 4)],⟨rfl,rfl,rfl,rfl,rfl,⟨⟨rfl,rfl,(by first|rfl|(simp [bp];done)|omega|(dsimp only;omega)|(simp [bp];omega))⟩,trivial⟩,⟨⟨_,rfl,rfl,rfl,aC (enc:=bd) jR (fun _=>rfl)⟩,⟨_,rfl,rfl,rfl,aC (enc:=cT) cv.Read (fun _=>rfl)⟩,⟨_,rfl,rfl,rfl,.inr ⟨⟨⟨J _ rfl,⟨rfl,rfl,(by first|rfl|(simp [bp];done)|omega|(dsimp only;omega)|(simp [bp];omega))⟩,trivial⟩,trivial⟩,⟨rfl,trivial⟩⟩⟩,trivial⟩⟩,fx⟩
  ·intro points qd;subst qd;obtain⟨y1,MP,h⟩:=ai h;refine cx (X:=List eJ) [4,5] [4] (fun w1=>[]) (fun w1=>[(600,some ⟨96,3,w1.map cT⟩),(5,some ⟨92,2,[.agg [I cv.Z,.arr 600 0 w1.length]]⟩)]) (fun w1=>w1=y1) rfl rfl ?_ ?_
   ·skip;refine aD ?_;refine gJ [1,4,5] [4] [(20,some ⟨94,2,points.map bd⟩)] [(5,some 5),(600,some 600),(4,some 4)] [(6,aj bd points)] [(5,some ⟨92,2,[.agg [I cv.Z,.arr 600 0 cv.Read.length]]⟩),(600,some ⟨96,3,cv.Read.map cT⟩)] rfl rfl rfl rfl rfl ⟨rfl,by decide,trivial⟩ ⟨eW rfl (by first|rfl|(simp [bp];done)|omega|(dsimp only;omega)|(simp [bp];omega)) (fun _=>rfl),trivial⟩ ⟨⟨_,rfl,rfl,rfl,.inr ⟨⟨J _ rfl,trivial⟩,⟨rfl,trivial⟩⟩⟩,⟨_,rfl,rfl,rfl,.inl ⟨rfl,qX (fun _=>rfl) _⟩⟩,trivial⟩ ?_
    refine aY 2 rfl ?_;obtain⟨tv,pZ,MP⟩:=ai MP;refine aW aiP (anc points e_ tv pZ) rfl rfl rfl rfl rfl rfl rfl ?_;refine bS bd tv aa rfl rfl rfl rfl rfl rfl ?_;refine ah 1 rfl (bn ?_);refine cN (X:=Int×(List eJ)) (Y:=List eJ) [4,5,37,38] [4] (fun q=>[(39,I q.1)]) (fun q=>[(5,some ⟨92,2,[.agg [I cv.Z,.arr 600 0 q.2.length]]⟩),(600,some ⟨96,3,q.2.map cT⟩)]) (fun q=>zN tv q.1 q.2) (0,cv.Read) [(5,some 5),(600,some 600),(4,some 4)] MP ⟨rfl,rfl,rfl,rfl,rfl,⟨J _ rfl,trivial⟩,⟨⟨_,rfl,rfl,rfl,.inr ⟨⟨⟨J _ rfl,⟨rfl,rfl,(by first|rfl|(simp [bp];done)|omega|(dsimp only;omega)|(simp [bp];omega))⟩,trivial⟩,trivial⟩,⟨rfl,trivial⟩⟩⟩,⟨_,rfl,rfl,rfl,aC (enc:=cT) cv.Read (fun _=>rfl)⟩,trivial⟩⟩ (fun x1 lq jB fU zO=>?_)
    obtain⟨aB,l⟩:=x1;change zN tv aB l=_ at fU;unfold zN at fU;refine ab 1 rfl (aD ?_);refine ar (b:=decide (aB<((tv.length:Nat):Int))) rfl (fun ib=>?_) (fun ib=>?_)
    ·replace fU:=ak fU ib;refine Zk (aD (bn (au 1 rfl ?_)));obtain⟨e2,kU,fU⟩:=ai fU;refine cq bd tv aB e2 kU aa rfl rfl rfl rfl rfl rfl rfl rfl rfl ?_;refine ah 4 rfl (aY 4 rfl ?_);obtain⟨e3,nF,fU⟩:=ai fU;refine eO cT l aB e3 nF (by first|rfl|(simp [bp];done)|omega|(dsimp only;omega)|(simp [bp];omega)) aa rfl rfl rfl rfl rfl rfl rfl rfl rfl rfl ?_
     refine Zr 1 rfl ?_;refine jy cT l aB e3 (⟨e2,e3.Ok⟩:eJ) nF aa rfl rfl rfl rfl rfl rfl rfl rfl rfl rfl rfl rfl ?_;refine aI nd (bP (aq (aY 2 rfl (aI nd ?_))));have iz:=ae fU;subst iz;refine aq ⟨rfl,((U (aB+1)),bp l aB (⟨e2,e3.Ok⟩:eJ)),[(5,some 5),(600,some 600),(4,some 4)],⟨rfl,rfl,rfl,rfl,rfl,⟨J _ rfl,trivial⟩,⟨⟨_,rfl,rfl,rfl,.inr ⟨⟨⟨J _ rfl,⟨rfl,rfl,(by first|rfl|(simp [bp];done)|omega|(dsimp only;omega)|(simp [bp];omega))⟩,trivial⟩,trivial⟩,⟨rfl,trivial⟩⟩⟩,⟨_,rfl,rfl,rfl,aC (enc:=cT) (bp l aB (⟨e2,e3.Ok⟩:eJ)) (fun _=>rfl)⟩,trivial⟩⟩,zO⟩
    ·replace fU:=an fU ib;refine cD (bg ?_);obtain⟨t1,wL,hq⟩:=bf fU;subst hq;have hq:t1=_:=zO;subst hq;refine bg (cE ?_);have lJ:=ae wL;refine aq ⟨rfl,l,[(600,some 600),(5,some 5),(4,some 4)],⟨rfl,rfl,rfl,rfl,rfl,trivial,⟨⟨_,rfl,rfl,rfl,aC (enc:=cT) l (fun _=>rfl)⟩,⟨_,rfl,rfl,rfl,.inr ⟨⟨⟨J _ rfl,⟨rfl,rfl,(by first|rfl|(simp [bp];done)|omega|(dsimp only;omega)|(simp [bp];omega))⟩,trivial⟩,trivial⟩,⟨rfl,trivial⟩⟩⟩,trivial⟩⟩,lJ⟩
   ·intro nI anf;subst anf;refine ab 2 rfl ?_;refine gJ [4] [] [(600,some ⟨96,3,nI.map cT⟩)] [(4,some 4)] [] [(4,some ⟨92,2,[.agg [I cv.Z,aj cT nI]]⟩)] rfl rfl rfl rfl rfl ⟨rfl,by decide,trivial⟩ trivial ⟨⟨_,rfl,rfl,rfl,.inr ⟨⟨⟨J _ rfl,eW rfl (by first|rfl|(simp [bp];done)|omega|(dsimp only;omega)|(simp [bp];omega)) (fun _=>rfl),trivial⟩,trivial⟩,⟨rfl,trivial⟩⟩⟩,trivial⟩ ?_
    refine aR ?_;have jh:=ae h;subst jh;refine ao ?_;refine aw aa rfl rfl ?_;exact(ag _ rfl)
def zP (s:hJ) (e_:Int) (vv:Int) (l:List dc):Option ((Int×(List dc))⊕(List dc)):=
 (bif(decide (vv<((s.cB.length:Nat):Int))) then(β (aK s.cB vv) (fun e=>(β (CK e e_) (fun zQ=>(β (aK l vv) (fun e1=>some (κ ((U (vv+1)),bp l vv zQ)))))))) else some (ι l))
def CL (s:hJ) (e_:Int):Option hJ:=
 (β (zF s) (fun cv=>(bif(cv !=0) then(β (Gq s) (fun cA=>some cA)) else(β (lh 32 (⟨0,[]⟩:dc) ((s.cB.length:Nat):Int)) (fun m=>(β (CI s.dA e_) (fun tv=>(β ((bR (fun q=>zP s e_ q.1 q.2) (0,m)):Option (List dc)) (fun nI=>some (⟨nI,tv⟩:hJ))))))))))
theorem ang (s:hJ) (e_:Int) (r:hJ) (h:CL s e_=some r):Holds Tryz.prog 28 [v8 s,I e_] [] (v8 r) []:=by
 unfold CL at h;refine bO Tryz.func28 rfl Tryz.ntmps28 rfl rfl rfl (fun lim=>?_);refine ab 2 rfl (aD (au 1 rfl ?_));obtain⟨cv,cj,h⟩:=ai h;refine aW Vl (X7 s cv cj) rfl rfl rfl rfl rfl rfl rfl ?_;refine ah 1 rfl ?_;refine ar (b:=cv !=0) rfl (fun c2=>?_) (fun c2=>?_)
 ·replace h:=ak h c2;refine au 1 rfl ?_;obtain⟨cA,eB,h⟩:=ai h;refine aW ait (am' s cA eB) rfl rfl rfl rfl rfl rfl rfl ?_;refine ah 1 rfl (Ze ?_);have e4:=ae h;subst e4;refine ao ?_;refine aw aa rfl rfl ?_;exact(ag _ rfl)
 ·replace h:=an h c2;refine Zk (au 2 rfl ?_);refine bS dy s.cB aa rfl rfl rfl rfl rfl rfl ?_;obtain⟨m,gg,h⟩:=ai h;refine JN dy (⟨0,[]⟩:dc) ((s.cB.length:Nat):Int) m gg aa rfl rfl rfl rfl rfl rfl rfl rfl rfl rfl rfl rfl rfl rfl ?_;refine Zr 3 rfl ?_;obtain⟨tv,dD,h⟩:=ai h;refine aW aiu (ana s.dA e_ tv dD) rfl rfl rfl rfl rfl rfl rfl ?_;refine Zr 3 rfl ?_;refine aI (fun _=>by kernel_rfl) ?_;refine aq ?_;obtain⟨y,wB,h⟩:=ai h;refine cx (X:=List dc) [4,5] [4] (fun w=>[]) (fun w=>[(15,some ⟨92,2,w.map dy⟩),(5,some ⟨25,2,[.agg [.arr 15 0 w.length,aj bM tv]]⟩)]) (fun w=>w=y) rfl rfl ?_ ?_
  ·skip;refine au 2 rfl ?_;refine bS dy s.cB aa rfl rfl rfl rfl rfl rfl ?_;refine ah 1 rfl (bn ?_);refine cN (X:=Int×(List dc)) (Y:=List dc) [1,2,4,5,23] [2,4] (fun q=>[(24,I q.1)]) (fun q=>[(5,some ⟨25,2,[.agg [.arr 15 0 q.2.length,aj bM tv]]⟩),(15,some ⟨92,2,q.2.map dy⟩)]) (fun q=>zP s e_ q.1 q.2) (0,m) [(5,some 5),(15,some 15),(2,some 2),(4,some 4)] wB ⟨rfl,rfl,rfl,rfl,rfl,⟨J _ rfl,trivial⟩,⟨⟨_,rfl,rfl,rfl,.inr ⟨⟨⟨⟨rfl,rfl,rfl⟩,J _ rfl,trivial⟩,trivial⟩,⟨rfl,trivial⟩⟩⟩,⟨_,rfl,rfl,rfl,aC (enc:=dy) m (fun _=>rfl)⟩,trivial⟩⟩ (fun x vR vz dI nA=>?_);obtain⟨vv,l⟩:=x;change zP s e_ vv l=_ at dI;unfold zP at dI;refine ab 1 rfl (aD ?_);refine ar (b:=decide (vv<((s.cB.length:Nat):Int))) rfl (fun fN=>?_) (fun fN=>?_)
   ·replace dI:=ak dI fN;refine Zk (aD (bn (ab 2 rfl (aY 6 rfl ?_))));obtain⟨e,fS,dI⟩:=ai dI;refine cq dy s.cB vv e fS aa rfl rfl rfl rfl rfl rfl rfl rfl rfl ?_;refine Zr 2 rfl ?_;obtain⟨zQ,lO,dI⟩:=ai dI;refine aW aiv (ane e e_ zQ lO) rfl rfl rfl rfl rfl rfl rfl ?_;obtain⟨e1,ik,dI⟩:=ai dI;refine eO dy l vv e1 ik rfl aa rfl rfl rfl rfl rfl rfl rfl rfl rfl rfl ?_;refine jy dy l vv e1 zQ ik aa rfl rfl rfl rfl rfl rfl rfl rfl rfl rfl rfl rfl ?_;refine aI (fun _=>by kernel_rfl) ?_;refine bP (aq (aY 2 rfl (aI nd ?_)));have fx:=ae dI;subst fx;refine aq ⟨rfl,((U (vv+1)),bp l vv zQ),[(5,some 5),(15,some 15),(2,some 2),(4,some 4)],⟨rfl,rfl,rfl,rfl,rfl,⟨J _ rfl,trivial⟩,⟨⟨_,rfl,rfl,rfl,.inr ⟨⟨⟨⟨rfl,rfl,(by first|rfl|(simp [bp];done)|omega|(dsimp only;omega)|(simp [bp];omega))⟩,J _ rfl,trivial⟩,trivial⟩,⟨rfl,trivial⟩⟩⟩,⟨_,rfl,rfl,rfl,aC (enc:=dy) (bp l vv zQ) (fun _=>rfl)⟩,trivial⟩⟩,nA⟩
   ·replace dI:=an dI fN;refine cD (bg ?_);obtain⟨t,lP,hq⟩:=bf dI;subst hq;have hq:t=_:=nA;subst hq;refine bg (cE ?_);have iA:=ae lP;refine aq ⟨rfl,l,[(15,some 15),(5,some 5),(4,some 4)],⟨rfl,rfl,rfl,rfl,rfl,trivial,⟨⟨_,rfl,rfl,rfl,aC (enc:=dy) l (fun _=>rfl)⟩,⟨_,rfl,rfl,rfl,.inr ⟨⟨⟨⟨rfl,rfl,(by first|rfl|(simp [bp];done)|omega|(dsimp only;omega)|(simp [bp];omega))⟩,J _ rfl,trivial⟩,trivial⟩,⟨rfl,trivial⟩⟩⟩,trivial⟩⟩,iA⟩
  ·intro nI wC;subst wC;refine ab 2 rfl ?_;refine gJ [4] [] [(15,some ⟨92,2,nI.map dy⟩)] [(4,some 4)] [] [(4,some ⟨25,2,[.agg [aj dy nI,aj bM tv]]⟩)] rfl rfl rfl rfl rfl ⟨rfl,by decide,trivial⟩ trivial ⟨⟨_,rfl,rfl,rfl,.inr ⟨⟨⟨eW rfl (by first|rfl|(simp [bp];done)|omega|(dsimp only;omega)|(simp [bp];omega)) (fun _=>rfl),J _ rfl,trivial⟩,trivial⟩,⟨rfl,trivial⟩⟩⟩,trivial⟩ ?_
   refine aR ?_;have eR:=ae h;subst eR;refine ao ?_;refine aw aa rfl rfl ?_;exact(ag _ rfl)
def zR (vr:dc) (l1:List Int) (vv:Int):Option (((List Int)×Int)⊕(List Int)):=
 (bif(decide (vv<((vr.Read.length:Nat):Int))) then(β (aK vr.Read vv) (fun e=>(bif e.Ok then(β (dF 8 l1 ([vv])) (fun l2=>some (κ (l2,U (vv+1))))) else some (κ (l1,U (vv+1)))))) else some (ι l1))
def xr (vr:dc):Option (List Int):=
 (β ((bR (fun q=>zR vr q.1 q.2) ([],0)):Option (List Int)) (fun l=>some l))
theorem MQ (vr:dc) (r:List Int) (h:xr vr=some r):Holds Tryz.prog 163 [dy vr] [] ((aj I) r) []:=by
 unfold xr at h;refine bO Tryz.func163 rfl Tryz.ntmps163 rfl rfl rfl (fun lim=>?_);refine ab 2 rfl (ab 1 rfl ?_);obtain⟨y,bV,h⟩:=ai h;refine cx (X:=List Int) [] [] (fun w=>[(3,.arr 3 0 w.length)]) (fun w=>[(3,some ⟨3,1,w.map I⟩)]) (fun w=>w=y) rfl rfl ?_ ?_
 ·skip;refine au 2 rfl ?_;refine bS cT vr.Read aa rfl rfl rfl rfl rfl rfl ?_;refine ah 1 rfl (bn ?_);refine cN (X:=(List Int)×Int) (Y:=List Int) [7,8] [] (fun q=>[(3,.arr 3 0 q.1.length),(9,I q.2)]) (fun q=>[(3,some ⟨3,1,q.1.map I⟩)]) (fun q=>zR vr q.1 q.2) ([],0) [(3,none)] bV ⟨rfl,rfl,rfl,rfl,rfl,⟨⟨rfl,rfl,rfl⟩,J _ rfl,trivial⟩,⟨rfl,trivial⟩⟩ (fun x vR vz aA cF=>?_);obtain⟨l1,vv⟩:=x;change zR vr l1 vv=_ at aA;unfold zR at aA;refine ab 1 rfl (aD ?_);refine ar (b:=decide (vv<((vr.Read.length:Nat):Int))) rfl (fun c5=>?_) (fun c5=>?_)
  ·replace aA:=ak aA c5;refine Zk (aD (bn (au 1 rfl ?_)));obtain⟨e,dD,aA⟩:=ai aA;refine cq cT vr.Read vv e dD aa rfl rfl rfl rfl rfl rfl rfl rfl rfl ?_;refine ah 4 rfl (ab 2 rfl ?_);refine ar (b:=e.Ok) rfl (fun c7=>?_) (fun c7=>?_)
   ·replace aA:=ak aA c7;refine aY 3 rfl ?_;obtain⟨l2,fj,aA⟩:=ai aA;refine iF I l1 ([vv]) l2 fj (fun _=>rfl) rfl rfl aa rfl rfl rfl rfl rfl rfl rfl rfl rfl rfl rfl rfl rfl rfl rfl rfl rfl ?_;refine Zr 1 rfl (aI nd (bP (aq (aY 2 rfl (aI nd ?_)))));have e9:=ae aA;subst e9;refine aq ⟨rfl,(l2,U (vv+1)),[(3,some 19)],⟨rfl,rfl,rfl,rfl,rfl,⟨⟨rfl,rfl,rfl⟩,J _ rfl,trivial⟩,⟨⟨_,rfl,rfl,rfl,aC (enc:=I) l2 (fun _=>rfl)⟩,trivial⟩⟩,cF⟩
   ·replace aA:=an aA c7;refine cV (bP (aq (aY 2 rfl (aI nd ?_))));have dG:=ae aA;subst dG;refine aq ⟨rfl,(l1,U (vv+1)),[(3,some 3)],⟨rfl,rfl,rfl,rfl,rfl,⟨⟨rfl,rfl,rfl⟩,J _ rfl,trivial⟩,⟨⟨_,rfl,rfl,rfl,aC (enc:=I) l1 (fun _=>rfl)⟩,trivial⟩⟩,cF⟩
  ·replace aA:=an aA c5;refine cD (bg ?_);obtain⟨t,jI,hq⟩:=bf aA;subst hq;have hq:t=_:=cF;subst hq;refine bg (cE ?_);have fq:=ae jI;refine aq ⟨rfl,l1,[(3,some 3)],⟨rfl,rfl,rfl,rfl,rfl,⟨⟨rfl,rfl,rfl⟩,trivial⟩,⟨⟨_,rfl,rfl,rfl,aC (enc:=I) l1 (fun _=>rfl)⟩,trivial⟩⟩,fq⟩
 ·intro l dP;subst dP;refine ab 2 rfl ?_;refine gJ [] [] [(3,some ⟨3,1,l.map I⟩)] [] [(2,aj I l)] [] rfl rfl rfl rfl rfl ⟨rfl,by decide,trivial⟩ ⟨eW rfl rfl (fun _=>rfl),trivial⟩ trivial ?_;refine aR ?_;have dQ:=ae h;subst dQ;refine ao ?_;refine aw aa rfl rfl ?_;exact(ag _ rfl)
def Gt (a:a7) (b:a7) (fa:Int):Bool:=
 (bif(decide (fa<(max (U (a.X -b.X)) (U (b.X -a.X))))) then true else(decide (fa<(max (U (a.Y -b.Y)) (U (b.Y -a.Y))))))
theorem anh (a:a7) (b:a7) (fa:Int) (r:Bool) (h:Gt a b fa=r):Holds Tryz.prog 167 [bd a,bd b,I fa] [] (B r) []:=by
 unfold Gt at h;refine bO Tryz.func167 rfl Tryz.ntmps167 rfl rfl rfl (fun lim=>?_);refine ab 3 rfl (au 14 rfl ?_);refine bu rfl rfl rfl (fun g1=>?_) (fun g1=>?_)
 ·rw [g1];replace h:=ak h g1;refine ah 15 rfl (aR ?_);have e2:=h;subst e2;refine ao ?_;refine aw aa rfl rfl ?_;exact(ag _ rfl)
 ·rw [g1];replace h:=an h g1;refine ah 15 rfl (aR ?_);have e3:=h;subst e3;refine ao ?_;refine aw aa rfl rfl ?_;exact(ag _ rfl)
def zS (vr:dc) (fa:Int) (mv:List Int) (vv:Int) (e:Int) (CM:Bool) (aB:Int):Option ((Bool×Int)⊕Bool):=
 (bif(decide (aB<2)) then(β (aK [-1,1] aB) (fun e1=>(bif(((mv.length:Nat):Int)!=0) then(β (aK mv (Int.tmod (U ((U (vv+((mv.length:Nat):Int)))+e1)) ((mv.length:Nat):Int))) (fun e2=>(β (aK vr.Read e2) (fun e3=>(bif CM then(β (aK vr.Read e) (fun e4=>some (κ ((Gt e4.P_ e3.P_ fa),U (aB+1))))) else some (κ (false,U (aB+1)))))))) else none))) else some (ι CM))
def zT (vr:dc) (fa:Int) (mv:List Int) (vv:Int) (ka:List eJ):Option ((Int×(List eJ))⊕(List eJ)):=
 (bif(decide (vv<((mv.length:Nat):Int))) then(β ((β (aK mv vv) (fun e=>(β ((bR (fun q=>zS vr fa mv vv e q.1 q.2) (true,0)):Option Bool) (fun MR=>(bif MR then(β (aK ka e) (fun e5=>some (bp ka e (⟨(⟨0,0⟩:a7),false⟩:eJ)))) else some ka))))):Option (List eJ)) (fun Gu=>some (κ ((U (vv+1)),Gu)))) else some (ι ka))
def CN (vr:dc) (fa:Int):Option dc:=
 (β (zJ vr) (fun cv=>(β (xr vr) (fun mv=>(bif(decide (fa<0)) then some cv else(bif(decide (((mv.length:Nat):Int)<2)) then some cv else(β (uO vr) (fun cA=>(bif(cA !=0) then some cv else(β ((bR (fun q=>zT vr fa mv q.1 q.2) (0,cv.Read)):Option (List eJ)) (fun clean=>some (⟨cv.Z,clean⟩:dc))))))))))))
theorem ani (vr:dc) (fa:Int) (r:dc) (h:CN vr fa=some r):Holds Tryz.prog 128 [dy vr,I fa] [] (dy r) []:=by
 unfold CN at h;refine bO Tryz.func128 rfl Tryz.ntmps128 rfl rfl rfl (fun lim=>?_);refine ab 2 rfl (au 1 rfl ?_);obtain⟨cv,cj,h⟩:=ai h;refine eP (.agg [I cv.Z,.arr 600 0 cv.Read.length]) [] [(600,some ⟨96,3,cv.Read.map cT⟩)] [] [(600,some 998)] VB (X8 vr cv cj) rfl rfl rfl rfl rfl trivial ⟨ag _ rfl,trivial⟩ rfl rfl trivial rfl rfl ⟨⟨_,rfl,rfl,rfl,aC (enc:=cT) cv.Read (fun _=>rfl)⟩,trivial⟩ ⟨J _ rfl,⟨rfl,rfl,rfl⟩,trivial⟩ rfl (fun h=>absurd rfl h) rfl rfl rfl ?_;refine ah 2 rfl (au 1 rfl ?_);obtain⟨mv,g_,h⟩:=ai h;refine aW Ja (MQ vr mv g_) rfl rfl rfl rfl rfl rfl rfl ?_;refine ah 1 rfl (aD (au 3 rfl ?_));refine bu rfl rfl rfl (fun g3=>?_) (fun g3=>?_)
 ·rw [g3];replace h:=ak h g3;refine ah 9 rfl ?_;refine ar rfl (fun aN=>?_) Zx;clear aN;refine ab 2 rfl ?_;refine gJ [4] [] [(600,some ⟨96,3,cv.Read.map cT⟩)] [(4,some 4)] [] [(4,some ⟨92,2,[.agg [I cv.Z,aj cT cv.Read]]⟩)] rfl rfl rfl rfl rfl ⟨rfl,by decide,trivial⟩ trivial ⟨⟨_,rfl,rfl,rfl,.inr ⟨⟨⟨J _ rfl,eW rfl rfl (fun _=>rfl),trivial⟩,trivial⟩,⟨rfl,trivial⟩⟩⟩,trivial⟩ ?_;refine Ze ?_;have e4:=ae h;subst e4;refine ao ?_;refine aw aa rfl rfl ?_;exact(ag _ rfl)
 ·rw [g3];replace h:=an h g3;refine Zr 1 rfl ?_;refine bS I mv aa rfl rfl rfl rfl rfl rfl ?_;refine Zr 3 rfl ?_;refine bu rfl rfl rfl (fun g5=>?_) (fun g5=>?_)
  ·rw [g5];replace h:=ak h g5;refine ah 4 rfl ?_;refine ar rfl (fun aN=>?_) Zx;clear aN;refine ab 2 rfl ?_;refine gJ [4] [] [(600,some ⟨96,3,cv.Read.map cT⟩)] [(4,some 4)] [] [(4,some ⟨92,2,[.agg [I cv.Z,aj cT cv.Read]]⟩)] rfl rfl rfl rfl rfl ⟨rfl,by decide,trivial⟩ trivial ⟨⟨_,rfl,rfl,rfl,.inr ⟨⟨⟨J _ rfl,eW rfl rfl (fun _=>rfl),trivial⟩,trivial⟩,⟨rfl,trivial⟩⟩⟩,trivial⟩ ?_;refine Ze ?_;have e6:=ae h;subst e6;refine ao ?_;refine aw aa rfl rfl ?_;exact(ag _ rfl)
  ·rw [g5];replace h:=an h g5;refine Zr 1 rfl ?_;obtain⟨cA,fh,h⟩:=ai h;refine aW Fc (Gn vr cA fh) rfl rfl rfl rfl rfl rfl rfl ?_;refine ah 2 rfl ?_;refine ar (b:=cA !=0) rfl (fun c8=>?_) (fun c8=>?_)
   ·replace h:=ak h c8;refine ab 2 rfl ?_;refine gJ [4] [] [(600,some ⟨96,3,cv.Read.map cT⟩)] [(4,some 4)] [] [(4,some ⟨92,2,[.agg [I cv.Z,aj cT cv.Read]]⟩)] rfl rfl rfl rfl rfl ⟨rfl,by decide,trivial⟩ trivial ⟨⟨_,rfl,rfl,rfl,.inr ⟨⟨⟨J _ rfl,eW rfl rfl (fun _=>rfl),trivial⟩,trivial⟩,⟨rfl,trivial⟩⟩⟩,trivial⟩ ?_;refine Ze ?_;have e9:=ae h;subst e9;refine ao ?_;refine aw aa rfl rfl ?_;exact(ag _ rfl)
   ·replace h:=an h c8;refine Zk ?_;obtain⟨y,qv,h⟩:=ai h;refine cx (X:=List eJ) [4,5] [4] (fun w=>[]) (fun w=>[(600,some ⟨96,3,w.map cT⟩),(5,some ⟨92,2,[.agg [I cv.Z,.arr 600 0 w.length]]⟩)]) (fun w=>w=y) rfl rfl ?_ ?_
    ·skip;refine au 1 rfl ?_;refine bS I mv aa rfl rfl rfl rfl rfl rfl ?_;refine ah 1 rfl (bn ?_);refine cN (X:=Int×(List eJ)) (Y:=List eJ) [1,2,4,5,6,30,31] [2,4] (fun q=>[(32,I q.1)]) (fun q=>[(600,some ⟨96,3,q.2.map cT⟩),(5,some ⟨92,2,[.agg [I cv.Z,.arr 600 0 q.2.length]]⟩)]) (fun q=>zT vr fa mv q.1 q.2) (0,cv.Read) [(600,some 600),(5,some 5),(2,some 2),(4,some 4)] qv ⟨rfl,rfl,rfl,rfl,rfl,⟨J _ rfl,trivial⟩,⟨⟨_,rfl,rfl,rfl,aC (enc:=cT) cv.Read (fun _=>rfl)⟩,⟨_,rfl,rfl,rfl,.inr ⟨⟨⟨J _ rfl,⟨rfl,rfl,rfl⟩,trivial⟩,trivial⟩,⟨rfl,trivial⟩⟩⟩,trivial⟩⟩ (fun x vR vz dK oP=>?_);obtain⟨vv,ka⟩:=x;change zT vr fa mv vv ka=_ at dK;unfold zT at dK;refine ab 1 rfl (aD ?_);refine ar (b:=decide (vv<((mv.length:Nat):Int))) rfl (fun qw=>?_) (fun qw=>?_)
     ·replace dK:=ak dK qw;refine Zk ?_;obtain⟨y1,pJ,dK⟩:=ai dK;refine cx (X:=List eJ) [1,2,4,5,6,30,31,32] [2,4] (fun w1=>[]) (fun w1=>[(600,some ⟨96,3,w1.map cT⟩),(5,some ⟨92,2,[.agg [I cv.Z,.arr 600 0 w1.length]]⟩)]) (fun w1=>w1=y1) rfl rfl ?_ ?_
      ·skip;refine bn (au 1 rfl ?_);obtain⟨e,jJ,pJ⟩:=ai pJ;refine cq I mv vv e jJ aa rfl rfl rfl rfl rfl rfl rfl rfl rfl ?_;refine ah 3 rfl (ab 1 rfl ?_);obtain⟨y2,qB,pJ⟩:=ai pJ;refine cx (X:=Bool) [1,2,4,5,6,8,30,31,32] [2,4] (fun w2=>[(9,B w2)]) (fun w2=>[(600,some ⟨96,3,ka.map cT⟩),(5,some ⟨92,2,[.agg [I cv.Z,.arr 600 0 ka.length]]⟩)]) (fun w2=>w2=y2) rfl rfl ?_ ?_
       ·skip;refine ab 2 rfl (bn ?_);refine cN (X:=Bool×Int) (Y:=Bool) [1,2,4,5,6,7,8,30,31,32,37] [2,4] (fun q=>[(9,B q.1),(38,I q.2)]) (fun q=>[(5,some ⟨92,2,[.agg [I cv.Z,.arr 600 0 ka.length]]⟩),(600,some ⟨96,3,ka.map cT⟩)]) (fun q=>zS vr fa mv vv e q.1 q.2) (true,0) [(5,some 5),(600,some 600),(2,some 2),(4,some 4)] qB ⟨rfl,rfl,rfl,rfl,rfl,⟨J _ rfl,J _ rfl,trivial⟩,⟨⟨_,rfl,rfl,rfl,.inr ⟨⟨⟨J _ rfl,⟨rfl,rfl,rfl⟩,trivial⟩,trivial⟩,⟨rfl,trivial⟩⟩⟩,⟨_,rfl,rfl,rfl,aC (enc:=cT) ka (fun _=>rfl)⟩,trivial⟩⟩ (fun x1 lq jB gC zU=>?_);obtain⟨CM,aB⟩:=x1;change zS vr fa mv vv e CM aB=_ at gC;unfold zS at gC;refine ab 1 rfl (aD ?_);refine ar (b:=decide (aB<2)) rfl (fun iQ=>?_) (fun iQ=>?_)
        ·replace gC:=ak gC iQ;refine Zk (aD (bn (aD (fJ cL ?_))));obtain⟨e1,nF,gC⟩:=ai gC;refine yx I [-1,1] aB e1 nF rfl (by intro j el hj;match j,hj with|0,hj=>(cases hj;rfl)|1,hj=>(cases hj;rfl)|(_+2),hj=>(exact absurd hj (by simp))) aa rfl rfl rfl rfl rfl rfl rfl rfl ?_
         refine ah 1 rfl (au 5 rfl ?_);refine bS I mv aa rfl rfl rfl rfl rfl rfl ?_;refine Zr 4 rfl ?_;refine bS I mv aa rfl rfl rfl rfl rfl rfl ?_;obtain⟨MS,gC⟩:=ki gC;refine vU (U ((U (vv+((mv.length:Nat):Int)))+e1)) ((mv.length:Nat):Int) MS rfl rfl rfl rfl rfl ?_;obtain⟨e2,pC,gC⟩:=ai gC;refine cq I mv (Int.tmod (U ((U (vv+((mv.length:Nat):Int)))+e1)) ((mv.length:Nat):Int)) e2 pC aa rfl rfl rfl rfl rfl rfl rfl rfl rfl ?_;refine Zr 1 rfl ?_;obtain⟨e3,kp,gC⟩:=ai gC;refine cq cT vr.Read e2 e3 kp aa rfl rfl rfl rfl rfl rfl rfl rfl rfl ?_;refine Zr 4 rfl ?_;refine aI (fun _=>by kernel_rfl) ?_;refine aq (aY 2 rfl ?_);refine bu rfl rfl rfl (fun CO=>?_) (fun CO=>?_)
         ·rw [CO];replace gC:=ak gC CO;refine Zr 3 rfl ?_;obtain⟨e4,tl,gC⟩:=ai gC;refine cq cT vr.Read e e4 tl aa rfl rfl rfl rfl rfl rfl rfl rfl rfl ?_;refine Zr 4 rfl ?_;refine aW ai2 (anh e4.P_ e3.P_ fa _ rfl) rfl rfl rfl rfl rfl rfl rfl ?_;refine Zr 2 rfl ?_;refine aI (fun _=>by kernel_rfl) ?_;refine bP (aq (aY 2 rfl (aI nd ?_)));have jL:=ae gC;subst jL;refine aq ⟨rfl,((Gt e4.P_ e3.P_ fa),U (aB+1)),[(5,some 5),(600,some 600),(2,some 2),(4,some 4)],⟨rfl,rfl,rfl,rfl,rfl,⟨J _ rfl,J _ rfl,trivial⟩,⟨⟨_,rfl,rfl,rfl,.inr ⟨⟨⟨J _ rfl,⟨rfl,rfl,rfl⟩,trivial⟩,trivial⟩,⟨rfl,trivial⟩⟩⟩,⟨_,rfl,rfl,rfl,aC (enc:=cT) ka (fun _=>rfl)⟩,trivial⟩⟩,zU⟩
         ·rw [CO];replace gC:=an gC CO;refine Zr 11 rfl ?_;refine aI (fun _=>by kernel_rfl) ?_;refine bP (aq (aY 2 rfl (aI nd ?_)));have kr:=ae gC;subst kr;refine aq ⟨rfl,(false,U (aB+1)),[(5,some 5),(600,some 600),(2,some 2),(4,some 4)],⟨rfl,rfl,rfl,rfl,rfl,⟨J _ rfl,J _ rfl,trivial⟩,⟨⟨_,rfl,rfl,rfl,.inr ⟨⟨⟨J _ rfl,⟨rfl,rfl,rfl⟩,trivial⟩,trivial⟩,⟨rfl,trivial⟩⟩⟩,⟨_,rfl,rfl,rfl,aC (enc:=cT) ka (fun _=>rfl)⟩,trivial⟩⟩,zU⟩
        ·replace gC:=an gC iQ;refine cD (bg ?_);obtain⟨t,xl,hq⟩:=bf gC;subst hq;have hq:t=_:=zU;subst hq;refine bg (cE ?_);have ku:=ae xl;refine aq ⟨rfl,CM,[(600,some 600),(5,some 5),(2,some 2),(4,some 4)],⟨rfl,rfl,rfl,rfl,rfl,⟨J _ rfl,trivial⟩,⟨⟨_,rfl,rfl,rfl,aC (enc:=cT) ka (fun _=>rfl)⟩,⟨_,rfl,rfl,rfl,.inr ⟨⟨⟨J _ rfl,⟨rfl,rfl,rfl⟩,trivial⟩,trivial⟩,⟨rfl,trivial⟩⟩⟩,trivial⟩⟩,ku⟩
       ·intro MR CE;subst CE;refine ab 1 rfl ?_;refine ar (b:=MR) rfl (fun wE=>?_) (fun wE=>?_)
        ·replace pJ:=ak pJ wE;refine aY 4 rfl ?_;obtain⟨e5,zk,pJ⟩:=ai pJ;refine eO cT ka e e5 zk rfl aa rfl rfl rfl rfl rfl rfl rfl rfl rfl rfl ?_;refine jy cT ka e e5 (⟨(⟨0,0⟩:a7),false⟩:eJ) zk aa rfl rfl rfl rfl rfl rfl rfl rfl rfl rfl rfl rfl ?_;refine aI nd (bP ?_);have wJ:=ae pJ;refine aq ⟨rfl,bp ka e (⟨(⟨0,0⟩:a7),false⟩:eJ),[(600,some 600),(5,some 5),(2,some 2),(4,some 4)],⟨rfl,rfl,rfl,rfl,rfl,trivial,⟨⟨_,rfl,rfl,rfl,aC (enc:=cT) (bp ka e (⟨(⟨0,0⟩:a7),false⟩:eJ)) (fun _=>rfl)⟩,⟨_,rfl,rfl,rfl,.inr ⟨⟨⟨J _ rfl,⟨rfl,rfl,(by first|rfl|(simp [bp];done)|omega|(dsimp only;omega)|(simp [bp];omega))⟩,trivial⟩,trivial⟩,⟨rfl,trivial⟩⟩⟩,trivial⟩⟩,wJ⟩
        ·replace pJ:=an pJ wE;refine cV (bP ?_);have sK:=ae pJ;refine aq ⟨rfl,ka,[(600,some 600),(5,some 5),(2,some 2),(4,some 4)],⟨rfl,rfl,rfl,rfl,rfl,trivial,⟨⟨_,rfl,rfl,rfl,aC (enc:=cT) ka (fun _=>rfl)⟩,⟨_,rfl,rfl,rfl,.inr ⟨⟨⟨J _ rfl,⟨rfl,rfl,(by first|rfl|(simp [bp];done)|omega|(dsimp only;omega)|(simp [bp];omega))⟩,trivial⟩,trivial⟩,⟨rfl,trivial⟩⟩⟩,trivial⟩⟩,sK⟩
      ·intro Gu anj;subst anj;refine aY 2 rfl (aI nd ?_);have Cx:=ae dK;subst Cx;refine aq ⟨rfl,((U (vv+1)),Gu),[(600,some 600),(5,some 5),(2,some 2),(4,some 4)],⟨rfl,rfl,rfl,rfl,rfl,⟨J _ rfl,trivial⟩,⟨⟨_,rfl,rfl,rfl,aC (enc:=cT) Gu (fun _=>rfl)⟩,⟨_,rfl,rfl,rfl,.inr ⟨⟨⟨J _ rfl,⟨rfl,rfl,(by first|rfl|(simp [bp];done)|omega|(dsimp only;omega)|(simp [bp];omega))⟩,trivial⟩,trivial⟩,⟨rfl,trivial⟩⟩⟩,trivial⟩⟩,oP⟩
     ·replace dK:=an dK qw;refine cD (bg ?_);obtain⟨t1,oz,hq⟩:=bf dK;subst hq;have hq:t1=_:=oP;subst hq;refine bg (cE ?_);have lL:=ae oz;refine aq ⟨rfl,ka,[(600,some 600),(5,some 5),(4,some 4)],⟨rfl,rfl,rfl,rfl,rfl,trivial,⟨⟨_,rfl,rfl,rfl,aC (enc:=cT) ka (fun _=>rfl)⟩,⟨_,rfl,rfl,rfl,.inr ⟨⟨⟨J _ rfl,⟨rfl,rfl,(by first|rfl|(simp [bp];done)|omega|(dsimp only;omega)|(simp [bp];omega))⟩,trivial⟩,trivial⟩,⟨rfl,trivial⟩⟩⟩,trivial⟩⟩,lL⟩
    ·intro clean Cy;subst Cy;refine ab 2 rfl ?_;refine gJ [4] [] [(600,some ⟨96,3,clean.map cT⟩)] [(4,some 4)] [] [(4,some ⟨92,2,[.agg [I cv.Z,aj cT clean]]⟩)] rfl rfl rfl rfl rfl ⟨rfl,by decide,trivial⟩ trivial ⟨⟨_,rfl,rfl,rfl,.inr ⟨⟨⟨J _ rfl,eW rfl (by first|rfl|(simp [bp];done)|omega|(dsimp only;omega)|(simp [bp];omega)) (fun _=>rfl),trivial⟩,trivial⟩,⟨rfl,trivial⟩⟩⟩,trivial⟩ ?_
     refine aR ?_;have sJ:=ae h;subst sJ;refine ao ?_;refine aw aa rfl rfl ?_;exact(ag _ rfl)
def zV (vr:dc) (l:List Int) (k:Int):Option Int:=
 (bif(decide ((U (k+1))<((l.length:Nat):Int))) then(β (aK l (U (k+1))) (fun e=>(β (aK l k) (fun e1=>some (U ((U (e -e1)) -1)))))) else(β (aK l 0) (fun e2=>(β (aK l k) (fun e3=>some (U ((U ((U (e2+((vr.Read.length:Nat):Int))) -e3)) -1)))))))
theorem X9 (vr:dc) (l:List Int) (k:Int) (r:Int) (h:zV vr l k=some r):Holds Tryz.prog 165 [dy vr,(aj I) l,I k] [] (I r) []:=by
 unfold zV at h;refine bO Tryz.func165 rfl Tryz.ntmps165 rfl rfl rfl (fun lim=>?_);refine ab 2 rfl (aD (au 3 rfl ?_));refine bS I l aa rfl rfl rfl rfl rfl rfl ?_;refine ah 1 rfl ?_;refine ar (b:=decide ((U (k+1))<((l.length:Nat):Int))) rfl (fun c1=>?_) (fun c1=>?_)
 ·replace h:=ak h c1;refine au 3 rfl ?_;obtain⟨e,g_,h⟩:=ai h;refine cq I l (U (k+1)) e g_ aa rfl rfl rfl rfl rfl rfl rfl rfl rfl ?_;refine Zr 3 rfl ?_;obtain⟨e1,eB,h⟩:=ai h;refine cq I l k e1 eB aa rfl rfl rfl rfl rfl rfl rfl rfl rfl ?_;refine Zr 4 rfl ?_;refine aI (fun _=>by kernel_rfl) ?_;refine aq (Ze ?_);have e4:=ae h;subst e4;refine ao ?_;refine aw aa rfl rfl ?_;exact(ag _ rfl)
 ·replace h:=an h c1;refine Zk (au 1 rfl ?_);obtain⟨e2,gg,h⟩:=ai h;refine cq I l 0 e2 gg aa rfl rfl rfl rfl rfl rfl rfl rfl rfl ?_;refine Zr 3 rfl ?_;refine bS cT vr.Read aa rfl rfl rfl rfl rfl rfl ?_;refine Zr 3 rfl ?_;obtain⟨e3,dD,h⟩:=ai h;refine cq I l k e3 dD aa rfl rfl rfl rfl rfl rfl rfl rfl rfl ?_;refine Zr 4 rfl ?_;refine aI (fun _=>by kernel_rfl) ?_;refine aq (aR ?_);have e7:=ae h;subst e7;refine ao ?_;refine aw aa rfl rfl ?_;exact(ag _ rfl)
def zW (vr:dc) (mv:List Int) (zX:Int) (vv:Int):Option ((Int×Int)⊕Int):=
 (bif(decide (vv<((mv.length:Nat):Int))) then(β (zV vr mv vv) (fun bv=>some (κ ((max zX bv),U (vv+1))))) else some (ι zX))
def CP (vr:dc):Option (Int×Int):=
 (β (xr vr) (fun mv=>(bif(((mv.length:Nat):Int)==0) then some ((U (((vr.Read.length:Nat):Int) -((mv.length:Nat):Int))),U (((vr.Read.length:Nat):Int) -((mv.length:Nat):Int))) else(β ((bR (fun q=>zW vr mv q.1 q.2) (0,0)):Option Int) (fun X_=>some ((U (((vr.Read.length:Nat):Int) -((mv.length:Nat):Int))),X_))))))
theorem ank (vr:dc) (r:Int×Int) (h:CP vr=some r):Holds Tryz.prog 164 [dy vr] [] (.cz [I r.1,I r.2]) []:=by
 unfold CP at h;refine bO Tryz.func164 rfl Tryz.ntmps164 rfl rfl rfl (fun lim=>?_);refine ab 3 rfl (au 1 rfl ?_);obtain⟨mv,cj,h⟩:=ai h;refine aW Ja (MQ vr mv cj) rfl rfl rfl rfl rfl rfl rfl ?_;refine ah 1 rfl (au 2 rfl ?_);refine bS cT vr.Read aa rfl rfl rfl rfl rfl rfl ?_;refine Zr 1 rfl ?_;refine bS I mv aa rfl rfl rfl rfl rfl rfl ?_;refine ah 2 rfl (aD (au 1 rfl ?_));refine bS I mv aa rfl rfl rfl rfl rfl rfl ?_;refine ah 1 rfl ?_;refine ar (b:=((mv.length:Nat):Int)==0) rfl (fun c2=>?_) (fun c2=>?_)
 ·replace h:=ak h c2;refine ab 4 rfl (Ze ?_);have e3:=ae h;subst e3;refine ao ?_;refine aw aa rfl rfl ?_;exact ag _ rfl
 ·replace h:=an h c2;refine Zk (ab 1 rfl ?_);obtain⟨y,B3,h⟩:=ai h;refine cx (X:=Int) [5] [] (fun w=>[(6,I w)]) (fun w=>[]) (fun w=>w=y) rfl rfl ?_ ?_
  ·skip;refine au 1 rfl ?_;refine bS I mv aa rfl rfl rfl rfl rfl rfl ?_;refine ah 1 rfl (bn ?_);refine cN (X:=Int×Int) (Y:=Int) [1,4,5,22] [1] (fun q=>[(6,I q.1),(23,I q.2)]) (fun q=>[]) (fun q=>zW vr mv q.1 q.2) (0,0) [(1,some 1)] B3 ⟨rfl,rfl,rfl,rfl,rfl,⟨J _ rfl,J _ rfl,trivial⟩,trivial⟩ (fun x vR vz ek nB=>?_);obtain⟨zX,vv⟩:=x;change zW vr mv zX vv=_ at ek;unfold zW at ek;refine ab 1 rfl (aD ?_);refine ar (b:=decide (vv<((mv.length:Nat):Int))) rfl (fun c8=>?_) (fun c8=>?_)
   ·replace ek:=ak ek c8;refine Zk (aD (bn (ab 2 rfl (aY 4 rfl ?_))));obtain⟨bv,fu,ek⟩:=ai ek;refine aW VM (X9 vr mv vv bv fu) rfl rfl rfl rfl rfl rfl rfl ?_;refine Zr 2 rfl (aI nd (bP (aq (aY 2 rfl (aI nd ?_)))));have dG:=ae ek;subst dG;refine aq ⟨rfl,((max zX bv),U (vv+1)),[(1,some 1)],⟨rfl,rfl,rfl,rfl,rfl,⟨J _ rfl,J _ rfl,trivial⟩,trivial⟩,nB⟩
   ·replace ek:=an ek c8;refine cD (bg ?_);obtain⟨t,jI,hq⟩:=bf ek;subst hq;have hq:t=_:=nB;subst hq;refine bg (cE ?_);have fq:=ae jI;refine aq ⟨rfl,zX,[],⟨rfl,rfl,rfl,rfl,rfl,⟨J _ rfl,trivial⟩,trivial⟩,fq⟩
  ·intro X_ B4;subst B4;refine ab 4 rfl (aR ?_);have dQ:=ae h;subst dQ;refine ao ?_;refine aw aa rfl rfl ?_;exact ag _ rfl
def zY (a:Int) (b:Int):Option Int:=
 (bif(b !=0) then(bif(b !=0) then(bif(decide ((Int.tmod a b)<0)) then some (U ((U (Int.tdiv a b)) -1)) else some (U (Int.tdiv a b))) else none) else none)
theorem Ya (a:Int) (b:Int) (r:Int) (h:zY a b=some r):Holds Tryz.prog 166 [I a,I b] [] (I r) []:=by
 unfold zY at h;refine bO Tryz.func166 rfl Tryz.ntmps166 rfl rfl rfl (fun lim=>?_);refine ab 1 rfl (au 2 rfl ?_);obtain⟨pP,h⟩:=ki h;refine EV a b pP rfl rfl rfl rfl rfl ?_;refine ah 1 rfl (aD (au 2 rfl ?_));obtain⟨MT,h⟩:=ki h;refine vU a b MT rfl rfl rfl rfl rfl ?_;refine ah 1 rfl ?_;refine ar (b:=decide ((Int.tmod a b)<0)) rfl (fun c3=>?_) (fun c3=>?_)
 ·replace h:=ak h c3;refine iS 3 rfl (ab 2 rfl (aR ?_));have e4:=ae h;subst e4;refine ao ?_;refine aw aa rfl rfl ?_;exact(ag _ rfl)
 ·replace h:=an h c3;refine Zk (ab 2 rfl (aR ?_));have e5:=ae h;subst e5;refine ao ?_;refine aw aa rfl rfl ?_;exact(ag _ rfl)
def CQ (e:Int) (e1:eJ) (e3:eJ) (bv:Int) (j:Int) (kX:List a7):Option ((Int×(List a7))⊕(List a7)):=
 (bif(decide (j≤bv)) then(bif(((kX.length:Nat):Int)!=0) then(β (zY (U ((U (e3.P_.X -e1.P_.X))*j)) (U (bv+1))) (fun fv=>(β (zY (U ((U (e3.P_.Y -e1.P_.Y))*j)) (U (bv+1))) (fun qD=>(β (aK kX (Int.tmod (U (e+j)) ((kX.length:Nat):Int))) (fun e5=>some (κ ((U (j+1)),bp kX (Int.tmod (U (e+j)) ((kX.length:Nat):Int)) (⟨U (e1.P_.X+fv),U (e1.P_.Y+qD)⟩:a7))))))))) else none) else some (ι kX))
def zZ (vr:dc) (mv:List Int) (vv:Int) (jR:List a7):Option ((Int×(List a7))⊕(List a7)):=
 (bif(decide (vv<((mv.length:Nat):Int))) then(β ((β (aK mv vv) (fun e=>(β (aK vr.Read e) (fun e1=>(bif(((mv.length:Nat):Int)!=0) then(β (aK mv (Int.tmod (U (vv+1)) ((mv.length:Nat):Int))) (fun e2=>(β (aK vr.Read e2) (fun e3=>(β (aK jR e) (fun e4=>(β (zV vr mv vv) (fun bv=>(bR (fun q=>CQ e e1 e3 bv q.1 q.2) (1,bp jR e e1.P_)))))))))) else none))))):Option (List a7)) (fun Gv=>some (κ ((U (vv+1)),Gv)))) else some (ι jR))
def CR (vr:dc) (eM:Int):Option ((List a7)×Int):=
 (β (uO vr) (fun cv=>(bif(cv !=0) then some ([],cv) else(β (xr vr) (fun mv=>(β (CP vr) (fun gv=>(β ((bif(decide (((mv.length:Nat):Int)<3)) then some (κ ([],30)) else(bif(decide (0<gv.1)) then(bif(decide (eM<gv.2)) then some (κ ([],30)) else some (ι ())) else some (ι ()))):Option (((List a7)×Int)⊕Unit)) (Sum.elim (fun q=>some q) (fun _=>(β (lh 16 (⟨0,0⟩:a7) ((vr.Read.length:Nat):Int)) (fun m=>(β ((bR (fun q=>zZ vr mv q.1 q.2) (0,m)):Option (List a7)) (fun points=>some (points,0)))))))))))))))
theorem anl (vr:dc) (eM:Int) (r:(List a7)×Int) (h:CR vr eM=some r):Holds Tryz.prog 127 [dy vr,I eM] [] (.cz [(aj bd) r.1,I r.2]) []:=by
 unfold CR at h;refine bO Tryz.func127 rfl Tryz.ntmps127 rfl rfl rfl (fun lim=>?_);refine ab 3 rfl (aD (au 1 rfl ?_));obtain⟨cv,cj,h⟩:=ai h;refine aW Fc (Gn vr cv cj) rfl rfl rfl rfl rfl rfl rfl ?_;refine ah 1 rfl (ab 2 rfl ?_);refine ar (b:=cv !=0) rfl (fun c2=>?_) (fun c2=>?_)
 ·replace h:=ak h c2;refine ab 3 rfl (Ze ?_);have e3:=ae h;subst e3;refine ao ?_;refine aw aa rfl rfl ?_;exact⟨ei,ag _ rfl,trivial⟩
 ·replace h:=an h c2;refine Zk (au 1 rfl ?_);obtain⟨mv,fy,h⟩:=ai h;refine aW Ja (MQ vr mv fy) rfl rfl rfl rfl rfl rfl rfl ?_;refine ah 1 rfl (au 1 rfl ?_);obtain⟨gv,gg,h⟩:=ai h;refine aW ai1 (ank vr gv gg) rfl rfl rfl rfl rfl rfl rfl ?_;refine ah 5 rfl ?_;obtain⟨y,gU,h⟩:=ai h;refine cx (X:=Unit) [2,7] [2] (fun _=>[]) (fun _=>[]) (fun w=>ι w=y) rfl rfl ?_ ?_
  ·skip;refine au 1 rfl ?_;refine bS I mv aa rfl rfl rfl rfl rfl rfl ?_;refine Zr 2 rfl ?_;refine bu rfl rfl rfl (fun g8=>?_) (fun g8=>?_)
   ·rw [g8];replace gU:=ak gU g8;refine ah 8 rfl ?_;refine ar rfl (fun aN=>?_) Zx;clear aN;refine ab 2 rfl (aR ?_);obtain⟨t,iu,hq⟩:=cp gU;subst hq;have hq:=bZ h;replace hq:=ae hq;subst hq;refine aJ ?_;have dG:=ae iu;subst dG;refine ao ?_;refine aw aa rfl rfl ?_;exact⟨ei,ag _ rfl,trivial⟩
   ·rw [g8];replace gU:=an gU g8;refine Zr 3 rfl ?_;refine bu rfl rfl rfl (fun g11=>?_) (fun g11=>?_)
    ·rw [g11];replace gU:=ak gU g11;refine ah 5 rfl ?_;refine ar (b:=decide (eM<gv.2)) rfl (fun eZ=>?_) (fun eZ=>?_)
     ·replace gU:=ak gU eZ;refine ab 2 rfl (aR ?_);obtain⟨t1,kn,hq⟩:=cp gU;subst hq;have hq:=bZ h;replace hq:=ae hq;subst hq;refine aJ ?_;have dZ:=ae kn;subst dZ;refine ao ?_;refine aw aa rfl rfl ?_;exact⟨ei,ag _ rfl,trivial⟩
     ·replace gU:=an gU eZ;refine cV ?_;have fx:=ae gU;refine aq ⟨rfl,(),[(2,some 2)],⟨rfl,rfl,rfl,rfl,rfl,trivial,trivial⟩,fx⟩
    ·rw [g11];replace gU:=an gU g11;refine ah 5 rfl ?_;refine ar rfl Zx (fun aN=>?_);clear aN;refine cV ?_;have fw:=ae gU;refine aq ⟨rfl,(),[(2,some 2)],⟨rfl,rfl,rfl,rfl,rfl,trivial,trivial⟩,fw⟩
  ·intro w qd;subst qd;replace h:=dX h;refine au 2 rfl ?_;refine bS cT vr.Read aa rfl rfl rfl rfl rfl rfl ?_;obtain⟨m,jJ,h⟩:=ai h;refine By bd (⟨0,0⟩:a7) ((vr.Read.length:Nat):Int) m jJ aa rfl rfl rfl rfl rfl rfl rfl rfl rfl rfl rfl rfl rfl ?_;refine ah 1 rfl ?_;obtain⟨y1,qB,h⟩:=ai h;refine cx (X:=List a7) [] [] (fun w1=>[(10,.arr 44 0 w1.length)]) (fun w1=>[(44,some ⟨94,2,w1.map bd⟩)]) (fun w1=>w1=y1) rfl rfl ?_ ?_
   ·skip;refine au 1 rfl ?_;refine bS I mv aa rfl rfl rfl rfl rfl rfl ?_;refine ah 1 rfl (bn ?_);refine cN (X:=Int×(List a7)) (Y:=List a7) [2,7,45,46] [2] (fun q=>[(47,I q.1),(10,.arr 44 0 q.2.length)]) (fun q=>[(44,some ⟨94,2,q.2.map bd⟩)]) (fun q=>zZ vr mv q.1 q.2) (0,m) [(44,some 44),(2,some 2)] qB ⟨rfl,rfl,rfl,rfl,rfl,⟨J _ rfl,⟨rfl,rfl,rfl⟩,trivial⟩,⟨⟨_,rfl,rfl,rfl,aC (enc:=bd) m (fun _=>rfl)⟩,trivial⟩⟩ (fun x vR vz gC zU=>?_);obtain⟨vv,jR⟩:=x;change zZ vr mv vv jR=_ at gC;unfold zZ at gC;refine ab 1 rfl (aD ?_);refine ar (b:=decide (vv<((mv.length:Nat):Int))) rfl (fun iQ=>?_) (fun iQ=>?_)
    ·replace gC:=ak gC iQ;refine Zk ?_;obtain⟨y2,mX,gC⟩:=ai gC;refine cx (X:=List a7) [2,7,45,46,47] [2] (fun w2=>[(10,.arr 44 0 w2.length)]) (fun w2=>[(44,some ⟨94,2,w2.map bd⟩)]) (fun w2=>w2=y2) rfl rfl ?_ ?_
     ·skip;refine bn (au 1 rfl ?_);obtain⟨e,pC,mX⟩:=ai mX;refine cq I mv vv e pC aa rfl rfl rfl rfl rfl rfl rfl rfl rfl ?_;refine ah 3 rfl (au 3 rfl ?_);obtain⟨e1,kp,mX⟩:=ai mX;refine cq cT vr.Read e e1 kp aa rfl rfl rfl rfl rfl rfl rfl rfl rfl ?_;refine Zr 8 rfl ?_;refine bS I mv aa rfl rfl rfl rfl rfl rfl ?_;obtain⟨anm,mX⟩:=ki mX;refine vU (U (vv+1)) ((mv.length:Nat):Int) anm rfl rfl rfl rfl rfl ?_;obtain⟨e2,tl,mX⟩:=ai mX;refine cq I mv (Int.tmod (U (vv+1)) ((mv.length:Nat):Int)) e2 tl aa rfl rfl rfl rfl rfl rfl rfl rfl rfl ?_;refine Zr 1 rfl ?_;obtain⟨e3,Kf,mX⟩:=ai mX;refine cq cT vr.Read e2 e3 Kf aa rfl rfl rfl rfl rfl rfl rfl rfl rfl ?_;refine Zr 6 rfl ?_;refine aI (fun _=>by kernel_rfl) ?_;refine aq (au 3 rfl ?_);obtain⟨e4,ri,mX⟩:=ai mX;refine eO bd jR e e4 ri rfl aa rfl rfl rfl rfl rfl rfl rfl rfl rfl rfl ?_;refine jy bd jR e e4 e1.P_ ri aa rfl rfl rfl rfl rfl rfl rfl rfl rfl rfl rfl rfl ?_;refine Zn (au 3 rfl ?_);obtain⟨bv,sI,mX⟩:=ai mX;refine aW VM (X9 vr mv vv bv sI) rfl rfl rfl rfl rfl rfl rfl ?_;refine ah 1 rfl (ab 1 rfl (bn ?_));refine cN (X:=Int×(List a7)) (Y:=List a7) [2,7,12,13,14,15,45,46,47] [2,13,14] (fun q=>[(16,I q.1),(10,.arr 44 0 q.2.length)]) (fun q=>[(44,some ⟨94,2,q.2.map bd⟩)]) (fun q=>CQ e e1 e3 bv q.1 q.2) (1,bp jR e e1.P_) [(44,some 44),(2,some 2),(13,some 13),(14,some 14)] mX ⟨rfl,rfl,rfl,rfl,rfl,⟨J _ rfl,⟨rfl,rfl,(by first|rfl|(simp [bp];done)|omega|(dsimp only;omega)|(simp [bp];omega))⟩,trivial⟩,⟨⟨_,rfl,rfl,rfl,aC (enc:=bd) (bp jR e e1.P_) (fun _=>rfl)⟩,trivial⟩⟩ (fun x1 lq jB ea qf=>?_)
      obtain⟨j,kX⟩:=x1;change CQ e e1 e3 bv j kX=_ at ea;unfold CQ at ea;refine aD (ab 3 rfl ?_);refine ar (b:=decide (j≤bv)) rfl (fun jM=>?_) (fun jM=>?_)
      ·replace ea:=ak ea jM;refine Zk (aD (bn (aY 6 rfl ?_)));obtain⟨ann,ea⟩:=ki ea;refine vU (U (e+j)) ((kX.length:Nat):Int) ann rfl rfl rfl rfl rfl ?_;refine Zr 11 rfl ?_;obtain⟨fv,Lo,ea⟩:=ai ea;refine aW VN (Ya (U ((U (e3.P_.X -e1.P_.X))*j)) (U (bv+1)) fv Lo) rfl rfl rfl rfl rfl rfl rfl ?_;refine Zr 12 rfl ?_;obtain⟨qD,wS,ea⟩:=ai ea;refine aW VN (Ya (U ((U (e3.P_.Y -e1.P_.Y))*j)) (U (bv+1)) qD wS) rfl rfl rfl rfl rfl rfl rfl ?_;refine Zr 2 rfl ?_;obtain⟨e5,zm,ea⟩:=ai ea;refine eO bd kX (Int.tmod (U (e+j)) ((kX.length:Nat):Int)) e5 zm (by first|rfl|(simp [bp];done)|omega|(dsimp only;omega)|(simp [bp];omega)) aa rfl rfl rfl rfl rfl rfl rfl rfl rfl rfl ?_
       refine jy bd kX (Int.tmod (U (e+j)) ((kX.length:Nat):Int)) e5 (⟨U (e1.P_.X+fv),U (e1.P_.Y+qD)⟩:a7) zm aa rfl rfl rfl rfl rfl rfl rfl rfl rfl rfl rfl rfl ?_;refine aI (fun _=>by kernel_rfl) ?_;refine bP (aq (aY 3 rfl (aI nd ?_)));have lL:=ae ea;subst lL;refine aq ⟨rfl,((U (j+1)),bp kX (Int.tmod (U (e+j)) ((kX.length:Nat):Int)) (⟨U (e1.P_.X+fv),U (e1.P_.Y+qD)⟩:a7)),[(44,some 44),(2,some 2),(13,some 13),(14,some 14)],⟨rfl,rfl,rfl,rfl,rfl,⟨J _ rfl,⟨rfl,rfl,(by first|rfl|(simp [bp];done)|omega|(dsimp only;omega)|(simp [bp];omega))⟩,trivial⟩,⟨⟨_,rfl,rfl,rfl,aC (enc:=bd) (bp kX (Int.tmod (U (e+j)) ((kX.length:Nat):Int)) (⟨U (e1.P_.X+fv),U (e1.P_.Y+qD)⟩:a7)) (fun _=>rfl)⟩,trivial⟩⟩,qf⟩
      ·replace ea:=an ea jM;refine cD (bg ?_);obtain⟨t2,B',hq⟩:=bf ea;subst hq;have hq:t2=_:=qf;subst hq;refine bg (cE (bP ?_));have qm:=ae B';refine aq ⟨rfl,kX,[(44,some 44),(2,some 2)],⟨rfl,rfl,rfl,rfl,rfl,⟨⟨rfl,rfl,(by first|rfl|(simp [bp];done)|omega|(dsimp only;omega)|(simp [bp];omega))⟩,trivial⟩,⟨⟨_,rfl,rfl,rfl,aC (enc:=bd) kX (fun _=>rfl)⟩,trivial⟩⟩,qm⟩
     ·intro Gv ano;subst ano;refine aY 2 rfl (aI nd ?_);have qh:=ae gC;subst qh;refine aq ⟨rfl,((U (vv+1)),Gv),[(44,some 44),(2,some 2)],⟨rfl,rfl,rfl,rfl,rfl,⟨J _ rfl,⟨rfl,rfl,(by first|rfl|(simp [bp];done)|omega|(dsimp only;omega)|(simp [bp];omega))⟩,trivial⟩,⟨⟨_,rfl,rfl,rfl,aC (enc:=bd) Gv (fun _=>rfl)⟩,trivial⟩⟩,zU⟩
    ·replace gC:=an gC iQ;refine cD (bg ?_);obtain⟨t3,oA,hq⟩:=bf gC;subst hq;have hq:t3=_:=zU;subst hq;refine bg (cE ?_);have oB:=ae oA;refine aq ⟨rfl,jR,[(44,some 44)],⟨rfl,rfl,rfl,rfl,rfl,⟨⟨rfl,rfl,(by first|rfl|(simp [bp];done)|omega|(dsimp only;omega)|(simp [bp];omega))⟩,trivial⟩,⟨⟨_,rfl,rfl,rfl,aC (enc:=bd) jR (fun _=>rfl)⟩,trivial⟩⟩,oB⟩
   ·intro points CE;subst CE;refine ab 3 rfl ?_;refine gJ [5] [] [(44,some ⟨94,2,points.map bd⟩)] [] [(4,aj bd points)] [] rfl rfl rfl rfl rfl ⟨rfl,by decide,trivial⟩ ⟨eW rfl (by first|rfl|(simp [bp];done)|omega|(dsimp only;omega)|(simp [bp];omega)) (fun _=>rfl),trivial⟩ trivial ?_
    refine aR ?_;have mO:=ae h;subst mO;refine ao ?_;refine aw aa rfl rfl ?_;exact ag _ rfl
def xt (n:Int):Bool:=
 (bif(decide ((-600)≤n)) then(decide (n≤600)) else false)
theorem Yb (n:Int) (r:Bool) (h:xt n=r):Holds Tryz.prog 204 [I n] [] (B r) []:=by
 unfold xt at h;refine bO Tryz.func204 rfl Tryz.ntmps204 rfl rfl rfl (fun lim=>?_);refine ab 1 rfl (au 3 rfl ?_);refine bu rfl rfl rfl (fun g1=>?_) (fun g1=>?_)
 ·rw [g1];replace h:=ak h g1;refine ah 4 rfl (aR ?_);have e2:=h;subst e2;refine ao ?_;refine aw aa rfl rfl ?_;exact(ag _ rfl)
 ·rw [g1];replace h:=an h g1;refine ah 4 rfl (aR ?_);have e3:=h;subst e3;refine ao ?_;refine aw aa rfl rfl ?_;exact(ag _ rfl)
def Aa (p:List a7) (vv:Int):Option (Int⊕(Bool⊕Unit)):=
 (bif(decide (vv<((p.length:Nat):Int))) then(β (aK p vv) (fun e=>(bif(!(xt e.X)) then some (ι (κ false)) else(bif(!(xt e.Y)) then some (ι (κ false)) else some (κ (U (vv+1))))))) else some (ι (ι ())))
def xu (p:List a7):Option Bool:=
 (β ((bR (fun q=>Aa p q) 0):Option (Bool⊕Unit)) (Sum.elim (fun q=>some q) (fun _=>some true)))
theorem MU (p:List a7) (r:Bool) (h:xu p=some r):Holds Tryz.prog 191 [(aj bd) p] [] (B r) []:=by
 unfold xu at h;refine bO Tryz.func191 rfl Tryz.ntmps191 rfl rfl rfl (fun lim=>?_);refine ab 1 rfl ?_;obtain⟨y,bV,h⟩:=ai h;refine cx (X:=Unit) [] [] (fun _=>[]) (fun _=>[]) (fun w=>ι w=y) rfl rfl ?_ ?_
 ·skip;refine au 1 rfl ?_;refine bS bd p aa rfl rfl rfl rfl rfl rfl ?_;refine ah 1 rfl (bn ?_);refine cN (X:=Int) (Y:=Bool⊕Unit) [5,6] [] (fun q=>[(7,I q)]) (fun q=>[]) (fun q=>Aa p q) 0 [] bV ⟨rfl,rfl,rfl,rfl,rfl,⟨J _ rfl,trivial⟩,trivial⟩ (fun vv vR vz aA cF=>?_);change Aa p vv=_ at aA;unfold Aa at aA;refine ab 1 rfl (aD ?_);refine ar (b:=decide (vv<((p.length:Nat):Int))) rfl (fun c5=>?_) (fun c5=>?_)
  ·replace aA:=ak aA c5;refine Zk (aD (bn (aD (fJ cL ?_))));obtain⟨e,dD,aA⟩:=ai aA;refine cq bd p vv e dD aa rfl rfl rfl rfl rfl rfl rfl rfl rfl ?_;refine ah 3 rfl (au 2 rfl ?_);refine aW VS (Yb e.X _ rfl) rfl rfl rfl rfl rfl rfl rfl ?_;refine Zr 2 rfl ?_;refine bu rfl rfl rfl (fun g7=>?_) (fun g7=>?_)
   ·rw [g7];replace aA:=ak aA g7;refine ah 5 rfl ?_;refine ar rfl (fun aN=>?_) Zx;clear aN;refine ab 1 rfl (aR (aZ (aJ ?_)));obtain⟨t,ky,hq⟩:=bf aA;subst hq;have hq:t=_:=cF;subst hq;refine aJ (aZ ?_);obtain⟨t1,iu,hq⟩:=cp ky;subst hq;have hq:=bZ h;replace hq:=ae hq;subst hq;refine aJ ?_;have dG:=ae iu;subst dG;refine ao ?_;refine aw aa rfl rfl ?_;exact(ag _ rfl)
   ·rw [g7];replace aA:=an aA g7;refine Zr 2 rfl ?_;refine aW VS (Yb e.Y _ rfl) rfl rfl rfl rfl rfl rfl rfl ?_;refine ah 2 rfl ?_;refine ar (b:=!(xt e.Y)) rfl (fun fN=>?_) (fun fN=>?_)
    ·replace aA:=ak aA fN;refine ab 1 rfl (aR (aZ (aJ ?_)));obtain⟨t2,h_,hq⟩:=bf aA;subst hq;have hq:t2=_:=cF;subst hq;refine aJ (aZ ?_);obtain⟨t3,kn,hq⟩:=cp h_;subst hq;have hq:=bZ h;replace hq:=ae hq;subst hq;refine aJ ?_;have dZ:=ae kn;subst dZ;refine ao ?_;refine aw aa rfl rfl ?_;exact(ag _ rfl)
    ·replace aA:=an aA fN;refine cV (bP (aq (aY 2 rfl (aI nd ?_))));have fx:=ae aA;subst fx;refine aq ⟨rfl,U (vv+1),[],⟨rfl,rfl,rfl,rfl,rfl,⟨J _ rfl,trivial⟩,trivial⟩,cF⟩
  ·replace aA:=an aA c5;refine cD (bg ?_);obtain⟨t4,lP,hq⟩:=bf aA;subst hq;have hq:t4=_:=cF;subst hq;refine bg (cE ?_);have iA:=ae lP;refine aq ⟨rfl,(),[],⟨rfl,rfl,rfl,rfl,rfl,trivial,trivial⟩,iA⟩
 ·intro w dP;subst dP;replace h:=dX h;refine ab 1 rfl (aR ?_);have eR:=ae h;subst eR;refine ao ?_;refine aw aa rfl rfl ?_;exact(ag _ rfl)
def Ac (p:List a7) (en:Int) (vv:Int):Option ((Int×Int)⊕Int):=
 (bif(decide (vv<((p.length:Nat):Int))) then(β (aK p vv) (fun e=>(bif(((p.length:Nat):Int)!=0) then(β (aK p (Int.tmod (U (vv+1)) ((p.length:Nat):Int))) (fun e1=>some (κ ((U (en+(U ((U (e.X*e1.Y)) -(U (e1.X*e.Y)))))),U (vv+1))))) else none))) else some (ι en))
def Gw (p:List a7):Option Int:=
 (bif(decide (32<((p.length:Nat):Int))) then some 0 else(β (xu p) (fun iv=>(bif(!iv) then some 0 else(β ((bR (fun q=>Ac p q.1 q.2) (0,0)):Option Int) (fun fZ=>some fZ))))))
theorem anp (p:List a7) (r:Int) (h:Gw p=some r):Holds Tryz.prog 192 [(aj bd) p] [] (I r) []:=by
 unfold Gw at h;refine bO Tryz.func192 rfl Tryz.ntmps192 rfl rfl rfl (fun lim=>?_);refine ab 1 rfl (aD (au 1 rfl ?_));refine bS bd p aa rfl rfl rfl rfl rfl rfl ?_;refine Zr 2 rfl ?_;refine bu rfl rfl rfl (fun g1=>?_) (fun g1=>?_)
 ·rw [g1];replace h:=ak h g1;refine ah 4 rfl ?_;refine ar rfl (fun aN=>?_) Zx;clear aN;refine ab 1 rfl (Ze ?_);have e2:=ae h;subst e2;refine ao ?_;refine aw aa rfl rfl ?_;exact(ag _ rfl)
 ·rw [g1];replace h:=an h g1;refine Zr 1 rfl ?_;obtain⟨iv,eB,h⟩:=ai h;refine aW Jc (MU p iv eB) rfl rfl rfl rfl rfl rfl rfl ?_;refine ah 2 rfl ?_;refine ar (b:=!iv) rfl (fun c4=>?_) (fun c4=>?_)
  ·replace h:=ak h c4;refine ab 1 rfl (Ze ?_);have e5:=ae h;subst e5;refine ao ?_;refine aw aa rfl rfl ?_;exact(ag _ rfl)
  ·replace h:=an h c4;refine Zk (ab 1 rfl ?_);obtain⟨y,gU,h⟩:=ai h;refine cx (X:=Int) [] [] (fun w=>[(3,I w)]) (fun w=>[]) (fun w=>w=y) rfl rfl ?_ ?_
   ·skip;refine au 1 rfl ?_;refine bS bd p aa rfl rfl rfl rfl rfl rfl ?_;refine ah 1 rfl (bn ?_);refine cN (X:=Int×Int) (Y:=Int) [0,15,16] [] (fun q=>[(3,I q.1),(17,I q.2)]) (fun q=>[]) (fun q=>Ac p q.1 q.2) (0,0) [] gU ⟨rfl,rfl,rfl,rfl,rfl,⟨J _ rfl,J _ rfl,trivial⟩,trivial⟩ (fun x vR vz d_ qc=>?_);obtain⟨en,vv⟩:=x;change Ac p en vv=_ at d_;unfold Ac at d_;refine ab 1 rfl (aD ?_);refine ar (b:=decide (vv<((p.length:Nat):Int))) rfl (fun eK=>?_) (fun eK=>?_)
    ·replace d_:=ak d_ eK;refine Zk (aD (bn (au 1 rfl ?_)));obtain⟨e,fF,d_⟩:=ai d_;refine cq bd p vv e fF aa rfl rfl rfl rfl rfl rfl rfl rfl rfl ?_;refine ah 4 rfl (au 4 rfl ?_);refine bS bd p aa rfl rfl rfl rfl rfl rfl ?_;obtain⟨anq,d_⟩:=ki d_;refine vU (U (vv+1)) ((p.length:Nat):Int) anq rfl rfl rfl rfl rfl ?_;obtain⟨e1,lO,d_⟩:=ai d_;refine cq bd p (Int.tmod (U (vv+1)) ((p.length:Nat):Int)) e1 lO aa rfl rfl rfl rfl rfl rfl rfl rfl rfl ?_;refine ah 3 rfl (aY 14 rfl (aI nd (bP (aq (aY 2 rfl (aI nd ?_))))));have dZ:=ae d_;subst dZ;refine aq ⟨rfl,((U (en+(U ((U (e.X*e1.Y)) -(U (e1.X*e.Y)))))),U (vv+1)),[],⟨rfl,rfl,rfl,rfl,rfl,⟨J _ rfl,J _ rfl,trivial⟩,trivial⟩,qc⟩
    ·replace d_:=an d_ eK;refine cD (bg ?_);obtain⟨t,p9,hq⟩:=bf d_;subst hq;have hq:t=_:=qc;subst hq;refine bg (cE ?_);have fw:=ae p9;refine aq ⟨rfl,en,[],⟨rfl,rfl,rfl,rfl,rfl,⟨J _ rfl,trivial⟩,trivial⟩,fw⟩
   ·intro fZ qd;subst qd;refine ab 2 rfl (aR ?_);have iA:=ae h;subst iA;refine ao ?_;refine aw aa rfl rfl ?_;exact(ag _ rfl)
def CS (p:List a7):Option Int:=
 (bif(decide (((p.length:Nat):Int)<3)) then some 3 else(bif(decide (32<((p.length:Nat):Int))) then some 4 else(β (xu p) (fun iv=>(bif(!iv) then some 9 else(β (Gw p) (fun av=>(bif(av==0) then some 19 else some 0))))))))
theorem anr (p:List a7) (r:Int) (h:CS p=some r):Holds Tryz.prog 168 [(aj bd) p] [] (I r) []:=by
 unfold CS at h;refine bO Tryz.func168 rfl Tryz.ntmps168 rfl rfl rfl (fun lim=>?_);refine ab 1 rfl (aD (bn (au 1 rfl ?_)));refine bS bd p aa rfl rfl rfl rfl rfl rfl ?_;refine ah 2 rfl ?_;refine ar (b:=decide (((p.length:Nat):Int)<3)) rfl (fun c1=>?_) (fun c1=>?_)
 ·replace h:=ak h c1;refine ab 1 rfl (aR (aZ (aJ ?_)));have e2:=ae h;subst e2;refine ao ?_;refine aw aa rfl rfl ?_;exact(ag _ rfl)
 ·replace h:=an h c1;refine au 1 rfl ?_;refine bS bd p aa rfl rfl rfl rfl rfl rfl ?_;refine ah 2 rfl ?_;refine ar (b:=decide (32<((p.length:Nat):Int))) rfl (fun c3=>?_) (fun c3=>?_)
  ·replace h:=ak h c3;refine ab 1 rfl (aR (aZ (aJ ?_)));have e4:=ae h;subst e4;refine ao ?_;refine aw aa rfl rfl ?_;exact(ag _ rfl)
  ·replace h:=an h c3;refine au 1 rfl ?_;obtain⟨iv,gg,h⟩:=ai h;refine aW Jc (MU p iv gg) rfl rfl rfl rfl rfl rfl rfl ?_;refine ah 2 rfl ?_;refine ar (b:=!iv) rfl (fun c6=>?_) (fun c6=>?_)
   ·replace h:=ak h c6;refine ab 1 rfl (aR (aZ (aJ ?_)));have e7:=ae h;subst e7;refine ao ?_;refine aw aa rfl rfl ?_;exact(ag _ rfl)
   ·replace h:=an h c6;refine au 1 rfl ?_;obtain⟨av,fj,h⟩:=ai h;refine aW ai9 (anp p av fj) rfl rfl rfl rfl rfl rfl rfl ?_;refine ah 2 rfl ?_;refine ar (b:=av==0) rfl (fun c9=>?_) (fun c9=>?_)
    ·replace h:=ak h c9;refine ab 1 rfl (aR (aZ (aJ ?_)));have dG:=ae h;subst dG;refine ao ?_;refine aw aa rfl rfl ?_;exact(ag _ rfl)
    ·replace h:=an h c9;refine cV (bP (aq (ab 1 rfl (aR ?_))));have fM:=ae h;subst fM;refine ao ?_;refine aw aa rfl rfl ?_;exact(ag _ rfl)
def Gx (s:List a7):Option (List a7):=dF 16 ([]:List a7) s
theorem ans (s:List a7) (r:List a7) (h:Gx s=some r):Holds Tryz.prog 205 [aj bd s] [] (.arr 998 0 r.length) [(998,some ⟨94,2,r.map bd⟩)]:=by
 unfold Gx at h;refine bO Tryz.func205 rfl Tryz.ntmps205 rfl rfl rfl (fun lim=>?_);refine ab 1 rfl (aD (aD ?_));refine su rfl rfl rfl ?_;refine Zr 1 rfl (aI nd ?_);refine⟨_,_,sx rfl Tryz.underlying211 rfl rfl,fun b hb=>?_⟩;refine aq ?_;refine ar (b:=b) rfl (fun c1=>?_) (fun c1=>?_)
 ·have hs:=List.map_eq_nil_iff.1 (hb c1);subst hs;have hr:r=[]:=(Option.some.inj h).symm;subst hr;refine ab 1 rfl (Ze (ao ?_));exact eD [(998,none)] aa rfl rfl rfl rfl ⟨rfl,rfl,rfl⟩ ⟨rfl,trivial⟩
 ·refine cV ?_;refine aq (au 2 rfl ?_);refine si bd ([]:List a7) s r h (fun _=>rfl) (fun _=>rfl) rfl aa rfl rfl rfl rfl rfl rfl rfl rfl rfl rfl rfl rfl rfl rfl rfl ?_;refine ah 1 rfl (aR (ao ?_));exact eD [(998,some 7)] aa rfl rfl rfl rfl ⟨rfl,rfl,rfl⟩ ⟨⟨_,rfl,rfl,rfl,aC (enc:=bd) r (fun _=>rfl)⟩,trivial⟩
def Ad (s:List a7) (k:Int) (k2:Int) (jS:Int) (s2:List a7):Option ((Int×Int×(List a7))⊕((List a7)×Int)):=
 (bif(decide (jS<((((s.length:Nat):Int).toNat -k.toNat:Nat):Int))) then(bif(decide (0≤k)&&(decide (0≤jS)&&decide (jS<((s.length:Nat):Int) -k))) then(β (aK s2 (k+jS)) (fun e2=>(bif(decide (0≤k)&&(decide (0≤(U (jS -1)))&&decide ((U (jS -1))<((s.length:Nat):Int) -k))) then(β (aK s2 (k+(U (jS -1)))) (fun e3=>(bif(!(mI bd e2 e3)) then(bif(decide (0≤k)&&(decide (0≤jS)&&decide (jS<((s.length:Nat):Int) -k))) then(β (aK s2 (k+jS)) (fun e4=>(β (aK s2 k2) (fun e5=>some (κ ((U (k2+1)),U (jS+1),bp s2 k2 e4)))))) else none) else some (κ (k2,U (jS+1),s2))))) else none))) else none) else some (ι (s2,k2)))
def Ae (s:List a7) (k:Int):Option (Int⊕((List a7)⊕Unit)):=
 (bif(decide (k<((s.length:Nat):Int))) then(β ((β (aK s k) (fun e=>(β (aK s (U (k -1))) (fun e1=>(bif(mI bd e e1) then(bif(decide (0≤k)&&(decide (k<((s.length:Nat):Int))&&(decide (k≤((s.length:Nat):Int))&&decide (((s.length:Nat):Int)≤((s.length:Nat):Int))))) then(β ((bR (fun q=>Ad s k q.1 q.2.1 q.2.2) (k,1,s)):Option ((List a7)×Int)) (fun w3=>(bif(decide (0≤w3.2)&&(decide (w3.2<((w3.1.length:Nat):Int))&&(decide (w3.2≤((w3.1.length:Nat):Int))&&decide (((w3.1.length:Nat):Int)≤((w3.1.length:Nat):Int))))) then(bif(Nat.ble (w3.2.toNat+(((w3.1.length:Nat):Int).toNat -w3.2.toNat)) w3.1.length&&Nat.blt 0 (((w3.1.length:Nat):Int).toNat -w3.2.toNat)) then(cH (sB (⟨0,0⟩:a7) w3.1 w3.2.toNat (((w3.1.length:Nat):Int).toNat -w3.2.toNat)) (fun l=>(β (kF l w3.2) (fun l1=>some (κ (ι (κ l1))))))) else none) else none))) else none) else some (ι ())))))):Option ((Int⊕((List a7)⊕Unit))⊕Unit)) (Sum.elim (fun q=>some q) (fun _=>some (κ (U (k+1)))))) else some (ι (ι ())))
def CT (s:List a7):Option (List a7):=
 (bif(decide (((s.length:Nat):Int)<2)) then some s else(β ((bR (fun q=>Ae s q) 1):Option ((List a7)⊕Unit)) (Sum.elim (fun q=>some q) (fun _=>some s))))
theorem ant (s:List a7) (r:List a7) (h:CT s=some r):Holds Tryz.prog 210 [.arr 1300 0 s.length] [(1300,some ⟨94,2,s.map bd⟩)] (.arr 998 0 r.length) [(998,some ⟨94,2,r.map bd⟩)]:=by
 unfold CT at h;refine bO Tryz.func210 rfl Tryz.ntmps210 rfl rfl rfl (fun lim=>?_);refine ab 1 rfl (aD (ab 3 rfl ?_));refine ar (b:=decide (((s.length:Nat):Int)<2)) rfl (fun c1=>?_) (fun c1=>?_)
 ·replace h:=ak h c1;refine ab 2 rfl (Ze ?_);have e2:=ae h;subst e2;refine ao ?_;exact eD [(998,some 1300)] aa rfl rfl rfl rfl ⟨rfl,rfl,(by first|rfl|(simp [bp];done)|omega|(dsimp only;omega)|(simp [bp];omega))⟩ ⟨⟨_,rfl,rfl,rfl,aC (enc:=bd) s (fun _=>rfl)⟩,trivial⟩
 ·replace h:=an h c1;refine Zk ?_;obtain⟨y,qn,h⟩:=ai h;refine cx (X:=Unit) [] [] (fun _=>[(0,.arr 1300 0 s.length)]) (fun _=>[(1300,some ⟨94,2,s.map bd⟩)]) (fun w=>ι w=y) rfl rfl ?_ ?_
  ·skip;refine ab 1 rfl (bn ?_);refine cN (X:=Int) (Y:=(List a7)⊕Unit) [] [] (fun q=>[(3,I q),(0,.arr 1300 0 s.length)]) (fun q=>[(1300,some ⟨94,2,s.map bd⟩)]) (fun q=>Ae s q) 1 [(1300,some 1300)] qn ⟨rfl,rfl,rfl,rfl,rfl,⟨J _ rfl,⟨rfl,rfl,rfl⟩,trivial⟩,⟨⟨_,rfl,rfl,rfl,aC (enc:=bd) s (fun _=>rfl)⟩,trivial⟩⟩ (fun k vR vz bW i_=>?_);change Ae s k=_ at bW;unfold Ae at bW;refine aD (ab 4 rfl ?_);refine ar (b:=decide (k<((s.length:Nat):Int))) rfl (fun c7=>?_) (fun c7=>?_)
   ·replace bW:=ak bW c7;refine Zk ?_;obtain⟨y1,fG,bW⟩:=ai bW;refine cx (X:=Unit) [] [] (fun _=>[(0,.arr 1300 0 s.length),(3,I k)]) (fun _=>[(1300,some ⟨94,2,s.map bd⟩)]) (fun w1=>ι w1=y1) rfl rfl ?_ ?_
    ·skip;refine bn (au 2 rfl ?_);obtain⟨e,gx,fG⟩:=ai fG;refine eO bd s k e gx rfl aa rfl rfl rfl rfl rfl rfl rfl rfl rfl rfl ?_;refine fC bd s k e _ gx aa rfl rfl rfl rfl rfl rfl rfl ?_;refine Zr 3 rfl ?_;obtain⟨e1,fF,fG⟩:=ai fG;refine eO bd s (U (k -1)) e1 fF rfl aa rfl rfl rfl rfl rfl rfl rfl rfl rfl rfl ?_;refine fC bd s (U (k -1)) e1 _ fF aa rfl rfl rfl rfl rfl rfl rfl ?_;refine eA rfl (acC vZ rfl MB MC (by decide) rfl rfl rfl rfl rfl) rfl rfl rfl ?_;refine aI (fun _=>by kernel_rfl) ?_;refine aq ?_;refine ar (b:=mI bd e e1) rfl (fun eZ=>?_) (fun eZ=>?_)
     ·replace fG:=ak fG eZ;refine au 2 rfl ?_;obtain⟨anu,fG⟩:=ki fG;refine PT k ((s.length:Nat):Int) anu aa rfl rfl rfl rfl rfl rfl rfl rfl ⟨_,rfl⟩ rfl rfl ?_;refine ah 1 rfl ?_;obtain⟨y2,oO,fG⟩:=ai fG;refine cx (X:=(List a7)×Int) [] [] (fun w2=>[(0,.arr 1300 0 w2.1.length),(3,I w2.2)]) (fun w2=>[(1300,some ⟨94,2,w2.1.map bd⟩)]) (fun w2=>w2=y2) rfl rfl ?_ ?_
      ·skip;refine ab 1 rfl (bn ?_);refine cN (X:=Int×Int×(List a7)) (Y:=(List a7)×Int) [4] [] (fun q=>[(3,I q.1),(5,I q.2.1),(0,.arr 1300 0 q.2.2.length)]) (fun q=>[(1300,some ⟨94,2,q.2.2.map bd⟩)]) (fun q=>Ad s k q.1 q.2.1 q.2.2) (k,1,s) [(1300,some 1300)] oO ⟨rfl,rfl,rfl,rfl,rfl,⟨J _ rfl,J _ rfl,⟨rfl,rfl,rfl⟩,trivial⟩,⟨⟨_,rfl,rfl,rfl,aC (enc:=bd) s (fun _=>rfl)⟩,trivial⟩⟩ (fun x lq jB cG MV=>?_);obtain⟨k2,jS,s2⟩:=x;change Ad s k k2 jS s2=_ at cG;unfold Ad at cG;refine aD (ab 4 rfl ?_);refine ar (b:=decide (jS<((((s.length:Nat):Int).toNat -k.toNat:Nat):Int))) rfl (fun jK=>?_) (fun jK=>?_)
       ·replace cG:=ak cG jK;refine Zk (aD (bn (au 2 rfl ?_)));obtain⟨anv,cG⟩:=ki cG;obtain⟨e2,oI,cG⟩:=ai cG;refine J1 bd s2 k ((s.length:Nat):Int) jS e2 anv oI aa rfl rfl rfl rfl rfl rfl rfl rfl rfl rfl ?_;refine fC bd s2 (k+jS) e2 _ oI aa rfl rfl rfl rfl rfl rfl rfl ?_;refine Zr 3 rfl ?_;obtain⟨anw,cG⟩:=ki cG;obtain⟨e3,kU,cG⟩:=ai cG;refine J1 bd s2 k ((s.length:Nat):Int) (U (jS -1)) e3 anw kU aa rfl rfl rfl rfl rfl rfl rfl rfl rfl rfl ?_;refine fC bd s2 (k+(U (jS -1))) e3 _ kU aa rfl rfl rfl rfl rfl rfl rfl ?_;refine eA rfl (EP vZ rfl MB MC (by decide) rfl rfl rfl rfl rfl) rfl rfl rfl ?_;refine aI (fun _=>by kernel_rfl) ?_;refine aq ?_;refine ar (b:=!(mI bd e2 e3)) rfl (fun jN=>?_) (fun jN=>?_)
        ·replace cG:=ak cG jN;refine au 4 rfl ?_;obtain⟨MS,cG⟩:=ki cG;obtain⟨e4,pC,cG⟩:=ai cG;refine J1 bd s2 k ((s.length:Nat):Int) jS e4 MS pC aa rfl rfl rfl rfl rfl rfl rfl rfl rfl rfl ?_;refine fC bd s2 (k+jS) e4 _ pC aa rfl rfl rfl rfl rfl rfl rfl ?_;obtain⟨e5,kp,cG⟩:=ai cG;refine eO bd s2 k2 e5 kp rfl aa rfl rfl rfl rfl rfl rfl rfl rfl rfl rfl ?_;refine jy bd s2 k2 e5 e4 kp aa rfl rfl rfl rfl rfl rfl rfl rfl rfl rfl rfl rfl ?_;refine Zn (aY 3 rfl (aI nd (bP (aq (aY 3 rfl (aI nd ?_))))));have jh:=ae cG;subst jh;refine aq ⟨rfl,((U (k2+1)),U (jS+1),bp s2 k2 e4),[(1300,some 1300)],⟨rfl,rfl,rfl,rfl,rfl,⟨J _ rfl,J _ rfl,⟨rfl,rfl,(by first|rfl|(simp [bp];done)|omega|(dsimp only;omega)|(simp [bp];omega))⟩,trivial⟩,⟨⟨_,rfl,rfl,rfl,aC (enc:=bd) (bp s2 k2 e4) (fun _=>rfl)⟩,trivial⟩⟩,MV⟩
        ·replace cG:=an cG jN;refine cV (bP (aq (aY 3 rfl (aI nd ?_))));have iy:=ae cG;subst iy;refine aq ⟨rfl,(k2,U (jS+1),s2),[(1300,some 1300)],⟨rfl,rfl,rfl,rfl,rfl,⟨J _ rfl,J _ rfl,⟨rfl,rfl,(by first|rfl|(simp [bp];done)|omega|(dsimp only;omega)|(simp [bp];omega))⟩,trivial⟩,⟨⟨_,rfl,rfl,rfl,aC (enc:=bd) s2 (fun _=>rfl)⟩,trivial⟩⟩,MV⟩
       ·replace cG:=an cG jK;refine cD (bg ?_);obtain⟨t,oD,hq⟩:=bf cG;subst hq;have hq:t=_:=MV;subst hq;refine bg (cE ?_);have kr:=ae oD;refine aq ⟨rfl,(s2,k2),[(1300,some 1300)],⟨rfl,rfl,rfl,rfl,rfl,⟨⟨rfl,rfl,(by first|rfl|(simp [bp];done)|omega|(dsimp only;omega)|(simp [bp];omega))⟩,J _ rfl,trivial⟩,⟨⟨_,rfl,rfl,rfl,aC (enc:=bd) s2 (fun _=>rfl)⟩,trivial⟩⟩,kr⟩
      ·intro w2 LQ;subst LQ;obtain⟨s1,k1⟩:=w2;refine au 2 rfl ?_;obtain⟨anx,fG⟩:=ki fG;refine PT k1 ((s1.length:Nat):Int) anx aa rfl rfl rfl rfl rfl rfl rfl rfl ⟨_,rfl⟩ rfl rfl ?_;obtain⟨Yc,fG⟩:=ki fG;obtain⟨l,uP,fG⟩:=dT fG;refine akO bd (⟨0,0⟩:a7) s1 l uP Yc aa rfl rfl rfl rfl rfl rfl rfl rfl rfl rfl rfl rfl ?_;have asI:l.length=s1.length:=akN uP Yc;refine Zn (au 2 rfl ?_);obtain⟨l1,nz,fG⟩:=ai fG;refine uv bd l l1 k1 nz (by first|rfl|(simp [bp];done)|omega|(dsimp only;omega)|(simp [bp];omega)) aa rfl rfl rfl rfl rfl rfl rfl rfl rfl rfl rfl ?_
       refine ah 1 rfl (aR (aZ ?_));obtain⟨t1,MD,hq⟩:=cp fG;subst hq;have hq:=bZ bW;replace hq:=ae hq;subst hq;refine aJ ?_;obtain⟨t2,sD,hq⟩:=bf MD;subst hq;have hq:t2=_:=i_;subst hq;refine aJ (aZ ?_);obtain⟨t3,oz,hq⟩:=cp sD;subst hq;have hq:=bZ h;replace hq:=ae hq;subst hq;refine aJ ?_;have lL:=ae oz;subst lL;refine ao ?_;exact eD [(998,some 1300)] aa rfl rfl rfl rfl ⟨rfl,rfl,(by first|rfl|(simp [bp];done)|omega|(dsimp only;omega)|(simp [bp];omega))⟩ ⟨⟨_,rfl,rfl,rfl,aC (enc:=bd) l1 (fun _=>rfl)⟩,trivial⟩
     ·replace fG:=an fG eZ;refine cV (bP ?_);have sJ:=ae fG;refine aq ⟨rfl,(),[(1300,some 1300)],⟨rfl,rfl,rfl,rfl,rfl,⟨⟨rfl,rfl,(by first|rfl|(simp [bp];done)|omega|(dsimp only;omega)|(simp [bp];omega))⟩,J _ rfl,trivial⟩,⟨⟨_,rfl,rfl,rfl,aC (enc:=bd) s (fun _=>rfl)⟩,trivial⟩⟩,sJ⟩
    ·intro w1 sL;subst sL;replace bW:=dX bW;refine aY 3 rfl (aI nd ?_);have qm:=ae bW;subst qm;refine aq ⟨rfl,U (k+1),[(1300,some 1300)],⟨rfl,rfl,rfl,rfl,rfl,⟨J _ rfl,⟨rfl,rfl,(by first|rfl|(simp [bp];done)|omega|(dsimp only;omega)|(simp [bp];omega))⟩,trivial⟩,⟨⟨_,rfl,rfl,rfl,aC (enc:=bd) s (fun _=>rfl)⟩,trivial⟩⟩,i_⟩
   ·replace bW:=an bW c7;refine cD (bg ?_);obtain⟨t4,sE,hq⟩:=bf bW;subst hq;have hq:t4=_:=i_;subst hq;refine bg (cE ?_);have Ct:=ae sE;refine aq ⟨rfl,(),[(1300,some 1300)],⟨rfl,rfl,rfl,rfl,rfl,⟨⟨rfl,rfl,(by first|rfl|(simp [bp];done)|omega|(dsimp only;omega)|(simp [bp];omega))⟩,trivial⟩,⟨⟨_,rfl,rfl,rfl,aC (enc:=bd) s (fun _=>rfl)⟩,trivial⟩⟩,Ct⟩
  ·intro w sR;subst sR;replace h:=dX h;refine ab 2 rfl (aR ?_);have oB:=ae h;subst oB;refine ao ?_;exact eD [(998,some 1300)] aa rfl rfl rfl rfl ⟨rfl,rfl,(by first|rfl|(simp [bp];done)|omega|(dsimp only;omega)|(simp [bp];omega))⟩ ⟨⟨_,rfl,rfl,rfl,aC (enc:=bd) s (fun _=>rfl)⟩,trivial⟩
def CU (a:a7) (b:a7) (c:a7):Int:=
 (U ((U ((U (b.X -a.X))*(U (c.Y -a.Y)))) -(U ((U (c.X -a.X))*(U (b.Y -a.Y))))))
theorem anz (a:a7) (b:a7) (c:a7) (r:Int) (h:CU a b c=r):Holds Tryz.prog 226 [bd a,bd b,bd c] [] (I r) []:=by
 unfold CU at h;refine bO Tryz.func226 rfl Tryz.ntmps226 rfl rfl rfl (fun lim=>?_);refine ab 4 rfl (ab 24 rfl (aR ?_));have e1:=h;subst e1;refine ao ?_;refine aw aa rfl rfl ?_;exact(ag _ rfl)
def Af (e:a7) (l4:List a7):Option ((List a7)⊕(List a7)):=
 (bif(decide (2≤((l4.length:Nat):Int))) then(β (aK l4 (U (((l4.length:Nat):Int) -2))) (fun e1=>(β (aK l4 (U (((l4.length:Nat):Int) -1))) (fun e2=>(bif(decide ((CU e1 e2 e)≤0)) then(β (kF l4 (U (((l4.length:Nat):Int) -1))) (fun l5=>some (κ l5))) else some (ι l4)))))) else some (ι l4))
def Ag (p:List a7) (l1:List a7) (vv:Int):Option (((List a7)×Int)⊕(List a7)):=
 (bif(decide (vv<((p.length:Nat):Int))) then(β ((β (aK p vv) (fun e=>(β ((bR (fun q=>Af e q) l1):Option (List a7)) (fun l3=>(β (dF 16 l3 ([e])) (fun l6=>some l6)))))):Option (List a7)) (fun l2=>some (κ (l2,U (vv+1))))) else some (ι l1))
def Ah (p:List a7):Option (List a7):=
 (β ((bR (fun q=>Ag p q.1 q.2) ([],0)):Option (List a7)) (fun l=>(β (kF l (U (((l.length:Nat):Int) -1))) (fun l7=>some l7))))
theorem Yd (p:List a7) (r:List a7) (h:Ah p=some r):Holds Tryz.prog 211 [(aj bd) p] [] (.arr 998 0 r.length) [(998,some ⟨94,2,r.map bd⟩)]:=by
 unfold Ah at h;refine bO Tryz.func211 rfl Tryz.ntmps211 rfl rfl rfl (fun lim=>?_);refine ab 1 rfl (ab 1 rfl ?_);obtain⟨y,bV,h⟩:=ai h;refine cx (X:=List a7) [] [] (fun w=>[(3,.arr 3 0 w.length)]) (fun w=>[(3,some ⟨94,2,w.map bd⟩)]) (fun w=>w=y) rfl rfl ?_ ?_
 ·skip;refine au 1 rfl ?_;refine bS bd p aa rfl rfl rfl rfl rfl rfl ?_;refine ah 1 rfl (bn ?_);refine cN (X:=(List a7)×Int) (Y:=List a7) [6,7] [] (fun q=>[(3,.arr 3 0 q.1.length),(8,I q.2)]) (fun q=>[(3,some ⟨94,2,q.1.map bd⟩)]) (fun q=>Ag p q.1 q.2) ([],0) [(3,none)] bV ⟨rfl,rfl,rfl,rfl,rfl,⟨⟨rfl,rfl,rfl⟩,J _ rfl,trivial⟩,⟨rfl,trivial⟩⟩ (fun x vR vz aA cF=>?_);obtain⟨l1,vv⟩:=x;change Ag p l1 vv=_ at aA;unfold Ag at aA;refine ab 1 rfl (aD ?_);refine ar (b:=decide (vv<((p.length:Nat):Int))) rfl (fun c5=>?_) (fun c5=>?_)
  ·replace aA:=ak aA c5;refine Zk ?_;obtain⟨y1,gU,aA⟩:=ai aA;refine cx (X:=List a7) [6,7,8] [] (fun w1=>[(3,.arr 40 0 w1.length)]) (fun w1=>[(40,some ⟨94,2,w1.map bd⟩)]) (fun w1=>w1=y1) rfl rfl ?_ ?_
   ·skip;refine bn (aD (fJ cL ?_));obtain⟨e,fj,gU⟩:=ai gU;refine cq bd p vv e fj aa rfl rfl rfl rfl rfl rfl rfl rfl rfl ?_;refine ah 3 rfl ?_;obtain⟨y2,kW,gU⟩:=ai gU;refine cx (X:=List a7) [5,6,7,8] [5] (fun w2=>[(3,.arr 3 0 w2.length)]) (fun w2=>[(3,some ⟨94,2,w2.map bd⟩)]) (fun w2=>w2=y2) rfl rfl ?_ ?_
    ·skip;refine bn ?_;refine cN (X:=List a7) (Y:=List a7) [5,6,7,8] [5] (fun q=>[(3,.arr 3 0 q.length)]) (fun q=>[(3,some ⟨94,2,q.map bd⟩)]) (fun q=>Af e q) l1 [(3,some 3),(5,some 5)] kW ⟨rfl,rfl,rfl,rfl,rfl,⟨⟨rfl,rfl,rfl⟩,trivial⟩,⟨⟨_,rfl,rfl,rfl,aC (enc:=bd) l1 (fun _=>rfl)⟩,trivial⟩⟩ (fun l4 lq jB ck j_=>?_);change Af e l4=_ at ck;unfold Af at ck;refine aD (au 4 rfl ?_);refine bu rfl rfl rfl (fun g13=>?_) (fun g13=>?_)
     ·rw [g13];replace ck:=ak ck g13;refine Zr 4 rfl ?_;obtain⟨e1,ik,ck⟩:=ai ck;refine eO bd l4 (U (((l4.length:Nat):Int) -2)) e1 ik rfl aa rfl rfl rfl rfl rfl rfl rfl rfl rfl rfl ?_;refine fC bd l4 (U (((l4.length:Nat):Int) -2)) e1 _ ik aa rfl rfl rfl rfl rfl rfl rfl ?_;refine Zr 4 rfl ?_;obtain⟨e2,kv,ck⟩:=ai ck;refine eO bd l4 (U (((l4.length:Nat):Int) -1)) e2 kv rfl aa rfl rfl rfl rfl rfl rfl rfl rfl rfl rfl ?_;refine fC bd l4 (U (((l4.length:Nat):Int) -1)) e2 _ kv aa rfl rfl rfl rfl rfl rfl rfl ?_;refine Zr 1 rfl ?_;refine aW ajf (anz e1 e2 e _ rfl) rfl rfl rfl rfl rfl rfl rfl ?_;refine Zr 2 rfl ?_;refine aI (fun _=>by kernel_rfl) ?_;refine aq ?_;refine ar (b:=decide ((CU e1 e2 e)≤0)) rfl (fun gw=>?_) (fun gw=>?_)
      ·replace ck:=ak ck gw;refine Zk (bn (aY 4 rfl ?_));obtain⟨l5,jJ,ck⟩:=ai ck;refine uv bd l4 l5 (U (((l4.length:Nat):Int) -1)) jJ rfl aa rfl rfl rfl rfl rfl rfl rfl rfl rfl rfl rfl ?_;refine Zr 1 rfl (aI nd (bP ?_));have eR:=ae ck;subst eR;refine aq ⟨rfl,l5,[(3,some 3),(5,some 5)],⟨rfl,rfl,rfl,rfl,rfl,⟨⟨rfl,rfl,rfl⟩,trivial⟩,⟨⟨_,rfl,rfl,rfl,aC (enc:=bd) l5 (fun _=>rfl)⟩,trivial⟩⟩,j_⟩
      ·replace ck:=an ck gw;refine cD (bg ?_);obtain⟨t,lK,hq⟩:=bf ck;subst hq;have hq:t=_:=j_;subst hq;refine bg (cE ?_);have hZ:=ae lK;refine aq ⟨rfl,l4,[(3,some 3),(5,some 5)],⟨rfl,rfl,rfl,rfl,rfl,⟨⟨rfl,rfl,rfl⟩,trivial⟩,⟨⟨_,rfl,rfl,rfl,aC (enc:=bd) l4 (fun _=>rfl)⟩,trivial⟩⟩,hZ⟩
     ·rw [g13];replace ck:=an ck g13;refine Zr 16 rfl ?_;refine aI (fun _=>by kernel_rfl) ?_;refine aq ?_;refine ar rfl Zx (fun aN=>?_);clear aN;refine cD (bg ?_);obtain⟨t1,wO,hq⟩:=bf ck;subst hq;have hq:t1=_:=j_;subst hq;refine bg (cE ?_);have gK:=ae wO;refine aq ⟨rfl,l4,[(3,some 3),(5,some 5)],⟨rfl,rfl,rfl,rfl,rfl,⟨⟨rfl,rfl,rfl⟩,trivial⟩,⟨⟨_,rfl,rfl,rfl,aC (enc:=bd) l4 (fun _=>rfl)⟩,trivial⟩⟩,gK⟩
    ·intro l3 xn;subst xn;refine aY 3 rfl ?_;obtain⟨l6,nF,gU⟩:=ai gU;refine iF bd l3 ([e]) l6 nF (fun _=>rfl) rfl rfl aa rfl rfl rfl rfl rfl rfl rfl rfl rfl rfl rfl rfl rfl rfl rfl rfl rfl ?_;refine Zr 1 rfl (aI nd (bP ?_));have iz:=ae gU;refine aq ⟨rfl,l6,[(40,some 40)],⟨rfl,rfl,rfl,rfl,rfl,⟨⟨rfl,rfl,rfl⟩,trivial⟩,⟨⟨_,rfl,rfl,rfl,aC (enc:=bd) l6 (fun _=>rfl)⟩,trivial⟩⟩,iz⟩
   ·intro l2 qd;subst qd;refine aY 2 rfl (aI nd ?_);have jk:=ae aA;subst jk;refine aq ⟨rfl,(l2,U (vv+1)),[(3,some 40)],⟨rfl,rfl,rfl,rfl,rfl,⟨⟨rfl,rfl,rfl⟩,J _ rfl,trivial⟩,⟨⟨_,rfl,rfl,rfl,aC (enc:=bd) l2 (fun _=>rfl)⟩,trivial⟩⟩,cF⟩
  ·replace aA:=an aA c5;refine cD (bg ?_);obtain⟨t2,oE,hq⟩:=bf aA;subst hq;have hq:t2=_:=cF;subst hq;refine bg (cE ?_);have jh:=ae oE;refine aq ⟨rfl,l1,[(3,some 3)],⟨rfl,rfl,rfl,rfl,rfl,⟨⟨rfl,rfl,rfl⟩,trivial⟩,⟨⟨_,rfl,rfl,rfl,aC (enc:=bd) l1 (fun _=>rfl)⟩,trivial⟩⟩,jh⟩
 ·intro l dP;subst dP;refine au 4 rfl ?_;obtain⟨l7,tl,h⟩:=ai h;refine uv bd l l7 (U (((l.length:Nat):Int) -1)) tl rfl aa rfl rfl rfl rfl rfl rfl rfl rfl rfl rfl rfl ?_;refine ah 1 rfl (aR ?_);have jL:=ae h;subst jL;refine ao ?_;exact eD [(998,some 3)] aa rfl rfl rfl rfl ⟨rfl,rfl,rfl⟩ ⟨⟨_,rfl,rfl,rfl,aC (enc:=bd) l7 (fun _=>rfl)⟩,trivial⟩
def Ai (i:Int) (j:Int) (s1:List a7):Option ((Int×Int×(List a7))⊕(List a7)):=
 (bif(decide (i<j)) then(β (aK s1 j) (fun e=>(β (aK s1 i) (fun e1=>(β (aK s1 i) (fun e2=>(β (aK (bp s1 i e) j) (fun e3=>some (κ ((U (i+1)),U (j -1),bp (bp s1 i e) j e1)))))))))) else some (ι s1))
def CV (s:List a7):Option (List a7):=
 (bR (fun q=>Ai q.1 q.2.1 q.2.2) (0,U (((s.length:Nat):Int) -1),s))
theorem anA (s:List a7) (r:List a7) (h:CV s=some r):Holds Tryz.prog 212 [.arr 1300 0 s.length] [(1300,some ⟨94,2,s.map bd⟩)] (.cz []) [(1300,some ⟨94,2,r.map bd⟩)]:=by
 unfold CV at h;refine bO Tryz.func212 rfl Tryz.ntmps212 rfl rfl rfl (fun lim=>?_);refine ab 5 rfl (bn ?_);refine cN (X:=Int×Int×(List a7)) (Y:=List a7) [] [] (fun q=>[(2,I q.1),(3,I q.2.1),(0,.arr 1300 0 q.2.2.length)]) (fun q=>[(1300,some ⟨94,2,q.2.2.map bd⟩)]) (fun q=>Ai q.1 q.2.1 q.2.2) (0,U (((s.length:Nat):Int) -1),s) [(1300,some 1300)] h ⟨rfl,rfl,rfl,rfl,rfl,⟨J _ rfl,J _ rfl,⟨rfl,rfl,rfl⟩,trivial⟩,⟨⟨_,rfl,rfl,rfl,aC (enc:=bd) s (fun _=>rfl)⟩,trivial⟩⟩ (fun x vR vz lx kh=>?_);obtain⟨i,j,s1⟩:=x;change Ai i j s1=_ at lx;unfold Ai at lx;refine aD (ab 3 rfl ?_);refine ar (b:=decide (i<j)) rfl (fun c3=>?_) (fun c3=>?_)
 ·replace lx:=ak lx c3;refine Zk (aD (bn (aY 6 rfl ?_)));obtain⟨e,fy,lx⟩:=ai lx;refine eO bd s1 j e fy rfl aa rfl rfl rfl rfl rfl rfl rfl rfl rfl rfl ?_;refine fC bd s1 j e _ fy aa rfl rfl rfl rfl rfl rfl rfl ?_;refine Zr 2 rfl ?_;obtain⟨e1,gg,lx⟩:=ai lx;refine eO bd s1 i e1 gg rfl aa rfl rfl rfl rfl rfl rfl rfl rfl rfl rfl ?_;refine fC bd s1 i e1 _ gg aa rfl rfl rfl rfl rfl rfl rfl ?_;obtain⟨e2,dD,lx⟩:=ai lx;refine eO bd s1 i e2 dD rfl aa rfl rfl rfl rfl rfl rfl rfl rfl rfl rfl ?_;refine jy bd s1 i e2 e dD aa rfl rfl rfl rfl rfl rfl rfl rfl rfl rfl rfl rfl ?_;obtain⟨e3,fh,lx⟩:=ai lx;refine eO bd (bp s1 i e) j e3 fh (by first|rfl|(simp [bp];done)|omega|(dsimp only;omega)|(simp [bp];omega)) aa rfl rfl rfl rfl rfl rfl rfl rfl rfl rfl ?_
  refine jy bd (bp s1 i e) j e3 e1 fh aa rfl rfl rfl rfl rfl rfl rfl rfl rfl rfl rfl rfl ?_;refine aI (fun _=>by kernel_rfl) ?_;refine bP (aq (aY 6 rfl (aI nd ?_)));have e8:=ae lx;subst e8;refine aq ⟨rfl,((U (i+1)),U (j -1),bp (bp s1 i e) j e1),[(1300,some 1300)],⟨rfl,rfl,rfl,rfl,rfl,⟨J _ rfl,J _ rfl,⟨rfl,rfl,(by first|rfl|(simp [bp];done)|omega|(dsimp only;omega)|(simp [bp];omega))⟩,trivial⟩,⟨⟨_,rfl,rfl,rfl,aC (enc:=bd) (bp (bp s1 i e) j e1) (fun _=>rfl)⟩,trivial⟩⟩,kh⟩
 ·replace lx:=an lx c3;refine cD (bg ?_);obtain⟨t,iu,hq⟩:=bf lx;subst hq;have hq:t=_:=kh;subst hq;refine bg (cE ?_);have dG:=ae iu;subst dG;refine vL ?_;exact eD [(1300,some 1300)] aa rfl rfl rfl rfl (ag _ rfl) ⟨⟨_,rfl,rfl,rfl,aC (enc:=bd) s1 (fun _=>rfl)⟩,trivial⟩
def tm (x:Int):Bool:=
 (x !=x)
theorem Ye (x:Int) (r:Bool) (h:tm x=r):Holds Tryz.prog 225 [I x] [] (B r) []:=by
 unfold tm at h;refine bO Tryz.func225 rfl Tryz.ntmps225 rfl rfl rfl (fun lim=>?_);refine ab 1 rfl (ab 4 rfl (aR ?_));have e1:=h;subst e1;refine ao ?_;refine aw aa rfl rfl ?_;exact(ag _ rfl)
def rO (x:Int) (y:Int):Int:=
 (bif(tm x) then(bif(tm y) then 0 else(-1)) else(bif(tm y) then 1 else(bif(decide (x<y)) then(-1) else(bif(decide (y<x)) then 1 else 0))))
theorem Yf (x:Int) (y:Int) (r:Int) (h:rO x y=r):Holds Tryz.prog 209 [I x,I y] [] (I r) []:=by
 unfold rO at h;refine bO Tryz.func209 rfl Tryz.ntmps209 rfl rfl rfl (fun lim=>?_);refine ab 1 rfl (au 1 rfl ?_);refine aW VV (Ye x _ rfl) rfl rfl rfl rfl rfl rfl rfl ?_;refine ah 1 rfl (au 1 rfl ?_);refine aW VV (Ye y _ rfl) rfl rfl rfl rfl rfl rfl rfl ?_;refine ah 1 rfl (aD (ab 1 rfl ?_));refine ar (b:=tm x) rfl (fun c1=>?_) (fun c1=>?_)
 ·replace h:=ak h c1;refine aD (ab 1 rfl ?_);refine ar (b:=tm y) rfl (fun c2=>?_) (fun c2=>?_)
  ·replace h:=ak h c2;refine ab 1 rfl (Ze (aJ ?_));have e3:=h;subst e3;refine ao ?_;refine aw aa rfl rfl ?_;exact(ag _ rfl)
  ·replace h:=an h c2;refine Zk (ab 1 rfl (Ze ?_));have e4:=h;subst e4;refine ao ?_;refine aw aa rfl rfl ?_;exact(ag _ rfl)
 ·replace h:=an h c1;refine Zk (aD (ab 1 rfl ?_));refine ar (b:=tm y) rfl (fun c5=>?_) (fun c5=>?_)
  ·replace h:=ak h c5;refine ab 1 rfl (Ze ?_);have e6:=h;subst e6;refine ao ?_;refine aw aa rfl rfl ?_;exact(ag _ rfl)
  ·replace h:=an h c5;refine Zk (aD (ab 3 rfl ?_));refine ar (b:=decide (x<y)) rfl (fun c7=>?_) (fun c7=>?_)
   ·replace h:=ak h c7;refine ab 1 rfl (Ze ?_);have e8:=h;subst e8;refine ao ?_;refine aw aa rfl rfl ?_;exact(ag _ rfl)
   ·replace h:=an h c7;refine Zk (aD (ab 3 rfl ?_));refine ar (b:=decide (y<x)) rfl (fun c9=>?_) (fun c9=>?_)
    ·replace h:=ak h c9;refine ab 1 rfl (Ze ?_);have dG:=h;subst dG;refine ao ?_;refine aw aa rfl rfl ?_;exact(ag _ rfl)
    ·replace h:=an h c9;refine Zk (ab 1 rfl (aR ?_));have fM:=h;subst fM;refine ao ?_;refine aw aa rfl rfl ?_;exact(ag _ rfl)
def oQ (gu:List Int) (vv:Int):Option (Int⊕(Int⊕Unit)):=
 (bif(decide (vv<((gu.length:Nat):Int))) then(β (aK gu vv) (fun e=>(bif(e !=0) then some (ι (κ e)) else some (κ (U (vv+1)))))) else some (ι (ι ())))
def CW (gu:List Int):Option Int:=
 (β ((bR (fun q=>oQ gu q) 0):Option (Int⊕Unit)) (Sum.elim (fun q=>some q) (fun _=>some 0)))
theorem anB (gu:List Int) (r:Int) (h:CW gu=some r):Holds Tryz.prog 208 [(aj I) gu] [] (I r) []:=by
 unfold CW at h;refine bO Tryz.func208 rfl Tryz.ntmps208 rfl rfl rfl (fun lim=>?_);refine ab 1 rfl (ab 1 rfl ?_);obtain⟨y,bV,h⟩:=ai h;refine cx (X:=Unit) [3] [] (fun _=>[]) (fun _=>[]) (fun w=>ι w=y) rfl rfl ?_ ?_
 ·skip;refine au 1 rfl ?_;refine bS I gu aa rfl rfl rfl rfl rfl rfl ?_;refine ah 1 rfl (bn ?_);refine cN (X:=Int) (Y:=Int⊕Unit) [3,6,7] [] (fun q=>[(8,I q)]) (fun q=>[]) (fun q=>oQ gu q) 0 [] bV ⟨rfl,rfl,rfl,rfl,rfl,⟨J _ rfl,trivial⟩,trivial⟩ (fun vv vR vz aA cF=>?_);change oQ gu vv=_ at aA;unfold oQ at aA;refine ab 1 rfl (aD ?_);refine ar (b:=decide (vv<((gu.length:Nat):Int))) rfl (fun c5=>?_) (fun c5=>?_)
  ·replace aA:=ak aA c5;refine Zk (aD (bn (aD (fJ cL ?_))));obtain⟨e,dD,aA⟩:=ai aA;refine cq I gu vv e dD aa rfl rfl rfl rfl rfl rfl rfl rfl rfl ?_;refine ah 2 rfl (ab 3 rfl ?_);refine ar (b:=e !=0) rfl (fun c7=>?_) (fun c7=>?_)
   ·replace aA:=ak aA c7;refine ab 2 rfl (aR (aZ (aJ ?_)));obtain⟨t,ky,hq⟩:=bf aA;subst hq;have hq:t=_:=cF;subst hq;refine aJ (aZ ?_);obtain⟨t1,iu,hq⟩:=cp ky;subst hq;have hq:=bZ h;replace hq:=ae hq;subst hq;refine aJ ?_;have dG:=ae iu;subst dG;refine ao ?_;refine aw aa rfl rfl ?_;exact(ag _ rfl)
   ·replace aA:=an aA c7;refine cV (bP (aq (aY 2 rfl (aI nd ?_))));have fM:=ae aA;subst fM;refine aq ⟨rfl,U (vv+1),[],⟨rfl,rfl,rfl,rfl,rfl,⟨J _ rfl,trivial⟩,trivial⟩,cF⟩
  ·replace aA:=an aA c5;refine cD (bg ?_);obtain⟨t2,h_,hq⟩:=bf aA;subst hq;have hq:t2=_:=cF;subst hq;refine bg (cE ?_);have dQ:=ae h_;refine aq ⟨rfl,(),[],⟨rfl,rfl,rfl,rfl,rfl,trivial,trivial⟩,dQ⟩
 ·intro w dP;subst dP;replace h:=dX h;refine ab 2 rfl (aR ?_);have dZ:=ae h;subst dZ;refine ao ?_;refine aw aa rfl rfl ?_;exact(ag _ rfl)
def Gy (a:a7) (b:a7):Option Int:=
 (β (CW ([rO a.X b.X,rO a.Y b.Y])) (fun ov=>some ov))
theorem anC (a:a7) (b:a7) (r:Int) (h:Gy a b=some r):Holds Tryz.prog 207 [bd a,bd b] [] (I r) []:=by
 unfold Gy at h;refine bO Tryz.func207 rfl Tryz.ntmps207 rfl rfl rfl (fun lim=>?_);refine ab 3 rfl (au 4 rfl ?_);refine aW VT (Yf a.X b.X _ rfl) rfl rfl rfl rfl rfl rfl rfl ?_;refine Zr 4 rfl ?_;refine aW VT (Yf a.Y b.Y _ rfl) rfl rfl rfl rfl rfl rfl rfl ?_;refine Zr 1 rfl ?_;obtain⟨ov,cj,h⟩:=ai h;refine uh (L:=[(15,some ⟨3,1,([rO a.X b.X,rO a.Y b.Y]).map I⟩)]) ajc (anB ([rO a.X b.X,rO a.Y b.Y]) ov cj) rfl rfl rfl ⟨rfl,List.not_mem_nil,trivial⟩ ⟨eW rfl rfl (fun _=>rfl),trivial⟩ rfl rfl (fun _=>rfl) rfl ?_;refine Zr 1 rfl ?_;refine aI (fun _=>by kernel_rfl) ?_;refine aq (aR ?_);have e2:=ae h;subst e2;refine ao ?_;refine aw aa rfl rfl ?_;exact(ag _ rfl)
def Yg:Go.Shelf.Ren:=⟨fun x=>match x with
 |6=>206
 |15=>198
 |14=>224
 |28=>222
 |29=>223
 |20=>232
 |21=>233
 |22=>234
 |23=>235
 |24=>236
 |25=>237
 |26=>238
 |27=>239
 |46=>241
 |47=>228
 |48=>229
 |49=>242
 |50=>243
 |57=>244
 |n=>n,fun x=>match x with
 |22=>211
 |24=>94
 |25=>317
 |3=>3
 |39=>310
 |0=>0
 |53=>328
 |55=>196
 |4=>4
 |46=>321
 |45=>320
 |50=>202
 |5=>5
 |9=>9
 |66=>331
 |70=>335
 |76=>342
 |77=>145
 |n=>n,fun x=>x⟩
theorem anD:Go.Proofs.SlLaysF0.n6 Tryz.prog Yg where
 mixed:=by kernel_rfl
 f6:=⟨Tryz.f206.name,by kernel_rfl,Tryz.func206.trans (congrArg some (by kernel_rfl))⟩
 f15:=Tryz.func198.trans (congrArg some (by kernel_rfl))
 f14:=⟨Tryz.f224.name,by kernel_rfl,Tryz.func224.trans (congrArg some (by kernel_rfl))⟩
 f28:=Tryz.func222.trans (congrArg some (by kernel_rfl))
 f29:=Tryz.func223.trans (congrArg some (by kernel_rfl))
 f20:=⟨Tryz.f232.name,by kernel_rfl,Tryz.func232.trans (congrArg some (by kernel_rfl))⟩
 f21:=⟨Tryz.f233.name,by kernel_rfl,Tryz.func233.trans (congrArg some (by kernel_rfl))⟩
 f22:=⟨Tryz.f234.name,by kernel_rfl,Tryz.func234.trans (congrArg some (by kernel_rfl))⟩
 f23:=⟨Tryz.f235.name,by kernel_rfl,Tryz.func235.trans (congrArg some (by kernel_rfl))⟩
 f24:=⟨Tryz.f236.name,by kernel_rfl,Tryz.func236.trans (congrArg some (by kernel_rfl))⟩
 f25:=⟨Tryz.f237.name,by kernel_rfl,Tryz.func237.trans (congrArg some (by kernel_rfl))⟩
 f26:=⟨Tryz.f238.name,by kernel_rfl,Tryz.func238.trans (congrArg some (by kernel_rfl))⟩
 f27:=⟨Tryz.f239.name,by kernel_rfl,Tryz.func239.trans (congrArg some (by kernel_rfl))⟩
 f46:=⟨Tryz.f241.name,by kernel_rfl,Tryz.func241.trans (congrArg some (by kernel_rfl))⟩
 f47:=Tryz.func228.trans (congrArg some (by kernel_rfl))
 f48:=Tryz.func229.trans (congrArg some (by kernel_rfl))
 f49:=⟨Tryz.f242.name,by kernel_rfl,Tryz.func242.trans (congrArg some (by kernel_rfl))⟩
 f50:=⟨Tryz.f243.name,by kernel_rfl,Tryz.func243.trans (congrArg some (by kernel_rfl))⟩
 f57:=⟨Tryz.f244.name,by kernel_rfl,Tryz.func244.trans (congrArg some (by kernel_rfl))⟩
 t22:=Tryz.underlying211
 a22:=Tryz.isAgg211
 z22:=Tryz.sizeOf211
 v22:=Tryz.zeroValue211
 t25:=Tryz.underlying317
 a25:=Tryz.isAgg317
 z25:=Tryz.sizeOf317
 v25:=Tryz.zeroValue317
 t3:=Tryz.underlying3
 a3:=Tryz.isAgg3
 z3:=Tryz.sizeOf3
 v3:=Tryz.zeroValue3
 t39:=Tryz.underlying310
 a39:=Tryz.isAgg310
 z39:=Tryz.sizeOf310
 v39:=Tryz.zeroValue310
 t0:=Tryz.underlying0
 a0:=Tryz.isAgg0
 z0:=Tryz.sizeOf0
 v0:=Tryz.zeroValue0
 t53:=Tryz.underlying328
 a53:=Tryz.isAgg328
 z53:=Tryz.sizeOf328
 v53:=Tryz.zeroValue328
 t55:=Tryz.underlying196
 a55:=Tryz.isAgg196
 z55:=Tryz.sizeOf196
 v55:=Tryz.zeroValue196
 t4:=Tryz.underlying4
 a4:=Tryz.isAgg4
 z4:=Tryz.sizeOf4
 v4:=Tryz.zeroValue4
 t46:=Tryz.underlying321
 a46:=Tryz.isAgg321
 z46:=Tryz.sizeOf321
 v46:=Tryz.zeroValue321
 t45:=Tryz.underlying320
 a45:=Tryz.isAgg320
 z45:=Tryz.sizeOf320
 v45:=Tryz.zeroValue320
 t50:=Tryz.underlying202
 a50:=Tryz.isAgg202
 z50:=Tryz.sizeOf202
 v50:=Tryz.zeroValue202
 t5:=Tryz.underlying5
 a5:=Tryz.isAgg5
 z5:=Tryz.sizeOf5
 v5:=Tryz.zeroValue5
 t9:=Tryz.underlying9
 a9:=Tryz.isAgg9
 z9:=Tryz.sizeOf9
 v9:=Tryz.zeroValue9
 t66:=Tryz.underlying331
 a66:=Tryz.isAgg331
 z66:=Tryz.sizeOf331
 v66:=Tryz.zeroValue331
 t70:=Tryz.underlying335
 a70:=Tryz.isAgg335
 z70:=Tryz.sizeOf335
 v70:=Tryz.zeroValue335
 t76:=Tryz.underlying342
 a76:=Tryz.isAgg342
 z76:=Tryz.sizeOf342
 v76:=Tryz.zeroValue342
 t77:=Tryz.underlying145
 a77:=Tryz.isAgg145
 z77:=Tryz.sizeOf145
 v77:=Tryz.zeroValue145
def Aj (a b:Int):Int:=bif decide (a<b) then-1 else bif decide (b<a) then 1 else 0
def tn (a b:a7):Int:=bif Aj a.X b.X !=0 then Aj a.X b.X else Aj a.Y b.Y
theorem Yh (x y:Int):rO x y=Aj x y:=by
 unfold rO tm Aj;simp
theorem or_eq (a b:Int):CW [a,b]=some (bif a !=0 then a else b):=by
 have e:U (0+1)=1:=by decide
 have e2:U (1+1)=2:=by decide
 have g0:aK [a,b] 0=some a:=rfl;have g1:aK [a,b] 1=some b:=rfl;unfold CW;by_cases ha:a=0
 ·subst ha
  have s0:oQ [0,b] 0=some (.inl 1):=by
   unfold oQ;rw [g0];rfl
  rw [nm s0];by_cases hb:b=0
  ·subst hb
   have s1:oQ [0,0] 1=some (.inl 2):=by
    unfold oQ;rw [g1];rfl
   have s2:oQ [0,0] 2=some (.inr (.inr ())):=rfl;rw [nm s1,gQ s2];rfl
  ·have nb:(b !=0)=true:=by simp [hb]
   have s1:oQ [0,b] 1=some (.inr (.inl b)):=by
    unfold oQ;rw [g1,show decide ((1:Int)<(([0,b]:List Int).length:Nat))=true from rfl,cond_true,Option.bind_some,nb]
    rfl
   rw [gQ s1];rfl
 ·have na:(a !=0)=true:=by simp [ha]
  have s0:oQ [a,b] 0=some (.inr (.inl a)):=by
   unfold oQ;rw [g0,show decide ((0:Int)<(([a,b]:List Int).length:Nat))=true from rfl,cond_true,Option.bind_some,na]
   rfl
  rw [gQ s0,na];rfl
theorem anE (a b:a7):Gy a b=some (tn a b):=by
 unfold Gy tn;rw [or_eq,Yh,Yh];rfl
theorem Gz (x y:a7):Go.Proofs.ltOf tn x y=decide (x.X<y.X∨x.X=y.X∧x.Y<y.Y):=by
 unfold Go.Proofs.ltOf tn Aj;rcases Int.lt_trichotomy x.X y.X with h|h|h
 ·simp [h]
 ·rcases Int.lt_trichotomy x.Y y.Y with h2|h2|h2
  ·simp [h,h2]
  ·simp [h,h2]
  ·have h3:¬x.Y<y.Y:=by omega
   simp [h,h2,h3]
 ·have h3:¬x.X<y.X:=by omega
  have h4:¬x.X=y.X:=by omega
  simp [h,h3,h4]
theorem anF:Go.Sort.SWO (Go.Proofs.ltOf tn) where
 irrefl x:=by rw [Gz];simp
 trans x y z h1 h2:=by rw [Gz] at*;simp at*;omega
 ntrans x y z h1 h2:=by rw [Gz] at*;simp at*;omega
theorem anG (x y:a7) (h1:Go.Proofs.ltOf tn x y=false) (h2:Go.Proofs.ltOf tn y x=false):x=y:=by
 rw [Gz] at h1 h2;simp at h1 h2;obtain⟨a,b⟩:=x;obtain⟨c,d⟩:=y;simp at h1 h2;have e1:a=c:=by omega
 have e2:b=d:=by omega
 rw [e1,e2]
def MW (xs:List a7):List a7:=xs.mergeSort fun x y=>!(Go.Proofs.ltOf tn) y x
def CX (xs:List a7):Option (List a7):=bif decide (xs.length<4611686018427387904) then some (MW xs) else none
theorem anH (xs:List a7) (r:List a7) (h:CX xs=some r):Holds Tryz.prog 206 [.arr 1300 0 xs.length,.db 207 [] []] [(1300,some ⟨94,2,xs.map bd⟩)] (.cz []) [(1300,some ⟨94,2,r.map bd⟩)]:=by
 unfold CX at h;cases hb:decide (xs.length<4611686018427387904) with
 |false=>rw [hb] at h;cases h
 |true=>
  rw [hb] at h;have e:MW xs=r:=Option.some.inj h;subst e
  letI:Inhabited a7:=⟨⟨0,0⟩⟩
  exact ak5 (ρ:=Yg) anD 2 (by decide) Tryz.isAgg94 Tryz.sizeOf94 bd (fun p=>[.int .i64 p.X,.int .i64 p.Y]) (fun _=>rfl) (fun x v hv=>by simp at hv;rcases hv with rfl|rfl<;>rfl) (fun x v hv=>by simp at hv;rcases hv with rfl|rfl<;>rfl) (fun _=>rfl) tn anF anG 207 (enters_of Tryz.func207 (by kernel_rfl) rfl)
   (fun x y=>anC x y _ (anE x y)) 94 xs (of_decide_eq_true hb) 206 rfl
end Go.Proofs.YtccnpbnokndeeaaGreatDoor
end
