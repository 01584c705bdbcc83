import Derived.Test.YtljbhgpanekomaaGreatDoorPiScLaw1
set_option maxRecDepth 100000
set_option linter.unusedSimpArgs false
set_option linter.unusedVariables false
set_option linter.unusedSectionVars false
namespace PI.Sc
open Go (IntKind BinOp UnOp)
open Short
theorem OT (c:UInt8):∀s:Str,c∉s→Go.Lib.indexByte s c = -1
 | [],_=>rfl
 | b :: s, h => by
   simp only[ay,not_or] at h
   have:(b==c)=false:=by simpa using λe=>h.1 e.symm
   simp[Go.Lib.indexByte,this,OT c s h.2]
theorem OU (c:UInt8):∀(a r:Str),c∉a→Go.Lib.indexByte (a++c::r) c=a.length
 | [],r,_=>by simp[Go.Lib.indexByte]
 | b :: a, r, h => by
   simp only[ay,not_or] at h
   have h1:(b==c)=false:=by simpa using λe=>h.1 e.symm
   have h2:=OU c a r h.2
   simp only[aJ,Go.Lib.indexByte,h1,aH,if_false,h2]
   have:((a.length:Int) == -1)=false:=by simp
   rw[this]; rfl
theorem c0R (c:UInt8) (s:Str):c∉s∨∃a r,s=a++c::r∧c∉a:=by
 induction s with
 | nil=>left; simp
 | cons b s ih =>
   by_cases hb:b=c
   ·exact .inr ⟨[],s,by simp[hb],by simp⟩
   ·rcases ih with h|⟨a,r,e,hn⟩
    ·exact .inl (by simp[Ne.symm hb,h])
    ·exact .inr ⟨b::a,r,by simp[e],by simp[Ne.symm hb,hn]⟩
theorem OV {c:UInt8}:∀{a a' r r':Str},c∉a→c∉a'→a++c::r=a'++c::r'→a=a'∧r=r'
 | [],[],r,r',_,_,h=>by simpa using h
 | [],x::a',r,r',_,h2,h=>by simp only[aY,aJ,bx] at h; exact absurd (by simp[h.1]) h2
 | x::a,[],r,r',h1,_,h=>by simp only[aY,aJ,bx] at h; exact absurd (by simp[h.1]) h1
 | x :: a, y :: a', r, r', h1, h2, h => by
   simp only[aJ,bx] at h
   simp only[ay,not_or] at h1 h2
   obtain⟨e1,e2⟩:=OV h1.2 h2.2 h.2
   exact⟨by rw[h.1,e1],e2⟩
theorem OW (s:Str):Dn s=true↔∃a b:Str,s=a++40::(b++[41])∧a.all yA=true∧b.all yA=true∧b≠[]∧a.length+b.length≤64:=by
 unfold Dn
 simp only[aq]
 constructor
 ·rintro⟨h1,h2,h3,h4,h5,h6⟩
  obtain⟨t,ht⟩:=List.takeWhile_prefix (p:=yA) (l:=s)
  have ha:AB s 0=s.takeWhile yA:=by simp[AB]
  have dm:(AB s 0).all yA=true:=by rw[ha]; exact List.all_takeWhile
  rw[← ha] at ht
  generalize AB s 0=a at *
  have kR:t.head? = some 40:=by
   rw[← ht] at h2
   rw[ar (ao _),Nat.sub_self] at h2
   rw[List.head?_eq_getElem?]; exact h2
  obtain⟨r,rfl⟩:∃r,t=40::r:=by cases t with | nil=>simp at kR | cons x r=>simp at kR; exact⟨r,by rw[kR]⟩
  have hb:AB s (a.length+1)=r.takeWhile yA:=by
   unfold AB
   rw[← ht]
   have:(a++40::r).drop (a.length+1)=r:=by
    rw[List.drop_append,be (by omega)]; simp
   rw[this]
  obtain⟨u,hu⟩:=List.takeWhile_prefix (p:=yA) (l:=r)
  have oS:(AB s (a.length+1)).all yA=true:=by rw[hb]; exact List.all_takeWhile
  rw[← hb] at hu
  generalize AB s (a.length+1)=b at *
  have cM:u.length=1:=by
   have:=aE List.length ht
   rw[← hu] at this
   simp at this; omega
  obtain⟨x,rfl⟩:=List.length_eq_one_iff.1 cM
  have hx:x=41:=by
   rw[← ht,← hu] at h4
   have:(a++40::(b++[x]))[a.length+b.length+1]? = some x:=by
    rw[ar (by omega),show a.length+b.length+1 - a.length=b.length+1 by omega,cH,ar (ao _)]; simp
   rw[this] at h4; simpa using h4
  subst hx
  exact⟨a,b,by rw[← ht,← hu],dm,oS,λe=>h5 (by rw[e]; rfl),h6⟩
 ·rintro⟨a,b,rfl,h1,h2,h3,h4⟩
  have ha:AB (a++40::(b++[41])) 0=a:=by
   unfold AB
   rw[List.drop_zero,List.takeWhile_append_of_pos (by simpa using h1)]
   have:yA 40=false:=rfl
   simp[List.takeWhile_cons,this]
  have hb:AB (a++40::(b++[41])) (a.length+1)=b:=by
   unfold AB
   have:(a++40::(b++[41])).drop (a.length+1)=b++[41]:=by
    rw[List.drop_append,be (by omega)]; simp
   rw[this,List.takeWhile_append_of_pos (by simpa using h2)]
   have:yA 41=false:=rfl
   simp[List.takeWhile_cons,this]
  rw[ha,hb]
  have fI:b.length≠0:=λe=>h3 (bj.1 e)
  refine⟨by simp; omega,?_,by simp; omega,?_,fI,h4⟩
  ·rw[ar (ao _),Nat.sub_self]; rfl
  ·rw[ar (by omega),show a.length+b.length+1 - a.length=b.length+1 by omega,cH,ar (ao _)]; simp
def Ab (r:Str):Bool:=decide (r.drop (r.length - 1)=[41])
theorem Ku {r:Str}:Ab r=true↔∃b,r=b++[41]:=by
 unfold Ab
 rw[aq]
 constructor
 ·intro e
  refine⟨r.take (r.length - 1),?_⟩
  rw[← e,b8]
 ·rintro⟨b,rfl⟩
  simp
section
variable {L:Nat→Option PFunc} (hL:∀k f,LS k=some f→L k=some f)
include hL
theorem b9o (s:Str) (h:List PObj):wn L 183 [.str s,.int .u8 40] h=some (.int .i64 (Go.Lib.indexByte s 40),h):=by
 rw[Ob (hL 183 _ rfl) rfl rfl]; rfl
theorem OX (s:Str) (h:List PObj):wn L 181 [.str s,.str [40]] h=some (.int .i64 (Go.Lib.indexByte s 40),h):=by
 refine wJ (hL 181 _ rfl) rfl ?_
 by_cases h1:s=[40]
 ·subst h1; simp[GW]; rfl
 ·have h2:¬[40]=s:=λe=>h1 e.symm
  simp[GW,h1,h2,b9o hL]
theorem c84 (s:Str) (hs:s.length≤1000) (hn:(40:UInt8)∉s) (h:List PObj):wn L 172 [.str s,.str [40]] h=some (.tuple [.str s,.str [],.bool false],h):=by
 have h1:wn L 179 [.str s,.str [40]] []=some (.tuple [.str s,.str [],.bool false],[]):=by
  refine wJ (hL 179 _ rfl) rfl ?_
  have:=OX hL s []
  rw[OT 40 s hn] at this
  simp[GU,this]
 refine wJ (hL 172 _ rfl) rfl ?_
 simp[GT,h1]
theorem c5f (a r:Str) (hs:(a++40::r).length≤1000) (hn:(40:UInt8)∉a) (h:List PObj):wn L 172 [.str (a++40::r),.str [40]] h=some (.tuple [.str a,.str r,.bool true],h):=by
 have h1:wn L 179 [.str (a++40::r),.str [40]] []=some (.tuple [.str a,.str r,.bool true],[]):=by
  refine wJ (hL 179 _ rfl) rfl ?_
  have:=OX hL (a++40::r) []
  rw[OU 40 a r hn] at this
  have hl:(a++40::r).length=a.length+(r.length+1):=by simp
  obtain⟨p,hp⟩:∃p,p=a.length+1:=⟨_,rfl⟩
  have hw:IntKind.i64.wrap ((a.length:Int)+1)=(p:Int):=by rw[xD]<;>omega
  have ht:(a++40::r).take a.length=a:=by simp
  have hd:(a++40::r).drop p=r:=by rw[hp,List.drop_append,be (by omega)]; simp
  generalize a++40::r=s at *
  have q1:a.length≤s.length:=by omega
  have q2:p≤s.length:=by omega
  have q2i:(p:Int)≤s.length:=by omega
  simp[GU,this,hw,q1,q2,q2i,ht,hd]
 refine wJ (hL 172 _ rfl) rfl ?_
 generalize a++40::r=s at *
 simp[GT,h1]
theorem b9p (r:Str) (hr:r.length≤1000) (h:List PObj):wn L 182 [.str r,.str [41]] h=some (.bool (Ab r),h):=by
 refine wJ (hL 182 _ rfl) rfl ?_
 unfold Ab
 by_cases h0:r=[]
 ·subst h0
  simp[Fq]
 ·have hp:0<r.length:=bU.2 h0
  have p6:(1:Int)≤r.length:=by omega
  have hw:IntKind.i64.wrap ((r.length:Int) - 1)=((r.length - 1:Nat):Int):=by rw[xD]<;>omega
  have em:r.length - 1≤r.length:=by omega
  have ky:1≤r.length:=by omega
  by_cases hx:r.drop (r.length - 1)=[41]
  ·simp[Fq,p6,ky,hw,em,hx]
  ·simp[Fq,p6,ky,hw,em,hx]
theorem OY (r:Str) (hr:r.length≤1000) (h:List PObj):wn L 173 [.str r,.str [41]] h=some (.tuple [.str (if Ab r then r.take (r.length - 1) else r),.bool (Ab r)],h):=by
 have h1:wn L 180 [.str r,.str [41]] []=some (.tuple [.str (if Ab r then r.take (r.length - 1) else r),.bool (Ab r)],[]):=by
  refine wJ (hL 180 _ rfl) rfl ?_
  have iQ:=b9p hL r hr []
  cases hc:Ab r with
  | false=>rw[hc] at iQ; simp[GV,iQ]
  | true =>
    rw[hc] at iQ
    obtain⟨b,rfl⟩:=Ku.1 hc
    obtain⟨q,hq⟩:∃q,q=(b++[41]).length - 1:=⟨_,rfl⟩
    have qi:(b++[41]).length=b.length+1:=by simp
    have hw:IntKind.i64.wrap (((b++[41]).length:Int) - 1)=(q:Int):=by rw[xD]<;>omega
    have em:q≤(b++[41]).length:=by omega
    rw[← hq]
    generalize b++[41]=r at *
    simp[GV,iQ,hw,em]
 refine wJ (hL 173 _ rfl) rfl ?_
 simp[J3,h1]
theorem Ht (s:Str) (hs:s.length≤1000) (h:List PObj):∃o:Bool,wn L 174 [.str s] h=some (.tuple [.list o (if s.all yA then yH s else[]),.bool (s.all yA)],h):=by
 refine⟨false,?_⟩
 refine wJ (hL 174 _ rfl) rfl ?_
 generalize hA:s.all yA=A
 simp[J4]
 refine c2L s (λ_ b=>yA b) (λi (x:PV)=>[(3,.list true (yH (s.take i))),(4,x),(6,.int .i64 i)]) .dead ?_ ?_ ?_ (by simp[yH])
 ·intro i hi cY x ih
  have hw:=wC i (by omega)
  have hb:=(OZ s[i]).1 cY
  have vj:=d3p s[i]
  have ih:=ih (.int .i64 i)
  have happ:yH (s.take (i+1))=yH (s.take i)++[.bool (s[i]==49)]:=by unfold yH; rw[yD hi,a8]; rfl
  rw[happ,vj] at ih
  have cM:(yH (s.take i)).length+1≤2147483648:=by simp[yH]; omega
  have ji:xf 1 (yH (s.take i))=true:=by cases s.take i<;>simp[yH]
  generalize yH (s.take i)=z at *
  rcases hb with hb|hb
  ·simp[hi,hb,hw,cM,ji]
   simpa[hb] using ih
  ·simp[hi,hb,hw,cM,ji]
   simpa[hb] using ih
 ·intro i hi cY _ x
  have hb:=OZ s[i]
  rw[cY] at hb
  simp only[aH,false_iff,not_or] at hb
  have b1:¬(s[i].toNat:Int)=48:=by omega
  have b2:¬(s[i].toNat:Int)=49:=by omega
  have dm:s.all yA=false:=OJ hi cY
  rw[dm] at hA; subst hA
  simp[hi,b1,b2]
 ·intro cY x
  have dm:s.all yA=true:=OI cY
  rw[dm] at hA; subst hA
  simp
theorem c2A (a b:List PV) (ha:a.length≤1000) (hb:b.length≤1000) (o1 o2:Bool) (h:List PObj):wn L 175 [.agg [.list o1 a,.list o2 b]] h=some (.int .i64 (if b.length=0 then 5 else if 64<a.length+b.length then 3 else 0),h):=by
 refine wJ (hL 175 _ rfl) rfl ?_
 have hw:IntKind.i64.wrap ((a.length:Int)+(b.length:Int))=((a.length+b.length:Nat):Int):=by rw[xD]<;>omega
 by_cases h1:b.length=0
 ·have:b=[]:=bj.1 h1
  subst this
  simp[Fp]
 ·have tq:¬b=[]:=λe=>h1 (by rw[e]; rfl)
  generalize hm:a.length+b.length=m at *
  by_cases h2:64<m
  ·have:(64:Int)<m:=by omega
   simp[Fp,h1,tq,hw,h2,this]
  ·have:¬(64:Int)<m:=by omega
   simp[Fp,h1,tq,hw,h2,this]
theorem c2B (s:Str) (h:List PObj):∃(o1 o2:Bool) (a b:List PV) (e:Int),wK a=true∧wK b=true∧(e=0↔Dn s=true)∧wn L 164 [.str s] h=some (.tuple [.agg [.list o1 a,.list o2 b],.int .i64 e],h):=by
 by_cases h0:66<s.length
 ·refine⟨false,false,[],[],3,rfl,rfl,?_,wJ (hL 164 _ rfl) rfl ?_⟩
  ·unfold Dn; simp; omega
  ·have:(66:Int)<s.length:=by omega
   simp[Ck,this]
 have kw:¬(66:Int)<s.length:=by omega
 rcases c0R 40 s with hn|⟨a,r,rfl,hn⟩
 ·have gj:=c84 hL s (by omega) hn []
  have iQ:=OY hL [] (by simp) []
  obtain⟨o1,dS⟩:=Ht hL s (by omega) []
  obtain⟨o2,et⟩:=Ht hL [] (by simp) []
  have dN:Ab []=false:=rfl
  rw[dN] at iQ
  simp at iQ
  refine⟨false,false,[],[],5,rfl,rfl,?_,wJ (hL 164 _ rfl) rfl ?_⟩
  ·rw[OW]
   constructor
   ·intro e; exact absurd e (by decide)
   ·rintro⟨a,b,e,_⟩; exact absurd (by rw[e]; simp) hn
  ·have f1:wK (if s.all yA then yH s else[])=true:=by split; exact Kv s; rfl
   generalize (if s.all yA then yH s else[])=za at *
   simp[yH] at et
   simp[Ck,kw,gj,iQ,dS,et,f1]
 ·have gj:=c5f hL a r (by omega) hn []
  have cM:(a++40::r).length=a.length+(r.length+1):=by simp
  have iQ:=OY hL r (by omega) []
  obtain⟨o1,dS⟩:=Ht hL a (by omega) []
  have qi:(if Ab r then r.take (r.length - 1) else r).length≤r.length:=by split<;>simp<;>omega
  obtain⟨o2,et⟩:=Ht hL (if Ab r then r.take (r.length - 1) else r) (by omega) []
  obtain⟨B,hB⟩:∃B,B=(if Ab r then r.take (r.length - 1) else r):=⟨_,rfl⟩
  rw[← hB] at iQ et qi
  have fY:Dn (a++40::r)=true↔Ab r=true∧a.all yA=true∧B.all yA=true∧B≠[]∧a.length+B.length≤64:=by
   rw[OW]
   constructor
   ·rintro⟨a',b',e,h1,h2,h3,h4⟩
    have jO:(40:UInt8)∉a':=λhm=>by have:=aD.1 h1 _ hm; revert this; decide
    obtain⟨rfl,rfl⟩:=OV hn jO e
    have hc:Ab (b'++[41])=true:=Ku.2 ⟨b',rfl⟩
    have r8:B=b':=by rw[hB,ah hc]; simp
    rw[r8]
    exact⟨hc,h1,h2,h3,h4⟩
   ·rintro⟨hc,h1,h2,h3,h4⟩
    obtain⟨b,rfl⟩:=Ku.1 hc
    have r8:B=b:=by rw[hB,ah hc]; simp
    rw[r8] at h2 h3 h4
    exact⟨a,b,rfl,h1,h2,h3,h4⟩
  have la:(yH a).length=a.length:=O0 a
  have lb:(yH B).length=B.length:=O0 B
  have fa:=Kv a
  have fb:=Kv B
  have mH:=c2A hL (yH a) (yH B) (by omega) (by omega) false false []
  rw[la,lb] at mH
  have kO:(if B.length=0 then(5:Int) else if a.length+B.length>64 then 3 else 0)=0↔B≠[]∧a.length+B.length≤64:=by
   split
   ·rename_i h1; have:B=[]:=bj.1 h1
    simp[this]
   ·rename_i h1; have:B≠[]:=λe=>h1 (by rw[e]; rfl)
    split
    ·simp; intro _; omega
    ·simp[this]; omega
  simp only[gt_iff_lt] at kO
  generalize vk:(if B.length=0 then(5:Int) else if 64<a.length+B.length then 3 else 0)=ce at *
  generalize yH a=za at *
  generalize yH B=zb at *
  generalize oN:a.all yA=qa at *
  generalize hBl:B.all yA=qb at *
  generalize a++40::r=s at *
  generalize Ab r=cl at *
  cases cl with
  | false =>
    refine⟨false,false,[],[],5,rfl,rfl,by rw[fY]; simp,wJ (hL 164 _ rfl) rfl ?_⟩
    have f1:wK (if qa=true then za else[])=true:=by split; exact fa; rfl
    have f2:wK (if qb=true then zb else[])=true:=by split; exact fb; rfl
    generalize (if qa=true then za else[])=ya at *
    generalize (if qb=true then zb else[])=yb at *
    simp[Ck,kw,gj,iQ,dS,et,f1,f2]
  | true =>
    cases qa with
    | false =>
      refine⟨false,false,[],[],5,rfl,rfl,by rw[fY]; simp,wJ (hL 164 _ rfl) rfl ?_⟩
      have f2:wK (if qb=true then zb else[])=true:=by split; exact fb; rfl
      generalize (if qb=true then zb else[])=yb at *
      simp at dS
      simp[Ck,kw,gj,iQ,dS,et,f2]
    | true =>
      cases qb with
      | false =>
        refine⟨false,false,[],[],5,rfl,rfl,by rw[fY]; simp,wJ (hL 164 _ rfl) rfl ?_⟩
        simp at dS et
        simp[Ck,kw,gj,iQ,dS,et,fa]
      | true =>
        simp at dS et
        by_cases hz:ce=0
        ·refine⟨false,false,za,zb,0,fa,fb,by rw[fY,← kO]; simp[hz],wJ (hL 164 _ rfl) rfl ?_⟩
         subst hz
         simp[Ck,kw,gj,iQ,dS,et,fa,fb,mH]
        ·refine⟨false,false,[],[],5,rfl,rfl,by rw[fY,← kO]; simp[hz],wJ (hL 164 _ rfl) rfl ?_⟩
         simp[Ck,kw,gj,iQ,dS,et,fa,fb,mH,hz]
end
def El (t n:Int):Bool:=decide (t=1∧n=2∨3≤t∧1≤n∧n≤16)
def ofA (e:Expr):Bool:=
 let n:Int:=e.args.length
 if e.kind=1∨e.kind=2∨e.kind=11 then decide (n=0)
 else if e.kind=3 then decide (n=if e.op=1∨e.op=2 then 1 else 2)
 else if e.kind=4 then decide (n=3)
 else if e.kind=5∨e.kind=8 then decide (n=1)
 else if e.kind=6∨e.kind=7 then decide (n=2)
 else if e.kind=9 then decide (e.t≠2)&&El e.t n
 else if e.kind=10 then decide (e.v≤n) else false
def ofT (e:Expr):Bool:=
 if e.kind=1 then decide (e.t=2∧-32768≤e.v∧e.v≤32767)||decide (e.t≠2)&&Bw e.t e.v
 else if e.kind=8 then decide (e.t≠2)&&Bw e.t e.v
 else if e.kind=9 then decide (e.v=0)
 else if e.kind=10 then decide (e.t=0∧(e.v=0∨e.v=1))
 else if 1≤e.kind∧e.kind≤11 then decide (e.t=0∧e.v=0) else false
theorem c0S (e:Expr):Fy e=(ofA e&&ofT e&&Ei e&&Hm e):=by
 have key:(decide (1≤e.kind∧e.kind≤11)&&Hj e&&Hk e)=(ofA e&&ofT e):=by
  unfold Hj Hk ofA ofT El Bw
  rcases O1 e.kind with hk|hk|hk|hk|hk|hk|hk|hk|hk|hk|hk|hk|hk
  ·have n1:¬e.kind=1:=by omega
   have n2:¬e.kind=2:=by omega
   have n3:¬e.kind=3:=by omega
   have n4:¬e.kind=4:=by omega
   have n5:¬e.kind=5:=by omega
   have n6:¬e.kind=6:=by omega
   have n7:¬e.kind=7:=by omega
   have n8:¬e.kind=8:=by omega
   have n9:¬e.kind=9:=by omega
   have n10:¬e.kind=10:=by omega
   have n11:¬e.kind=11:=by omega
   have:¬1≤e.kind:=by omega
   simp[n1,n2,n3,n4,n5,n6,n7,n8,n9,n10,n11,this]
  ·simp only[hk]
   rw[aI]
   simp
   intro _; split<;>omega
  ·simp only[hk]
   rw[aI]
   simp
   try omega
  ·simp only[hk]
   rw[aI]
   simp
   try omega
  ·simp only[hk]
   rw[aI]
   simp
   try omega
  ·simp only[hk]
   rw[aI]
   simp
   try omega
  ·simp only[hk]
   rw[aI]
   simp
   try omega
  ·simp only[hk]
   rw[aI]
   simp
   try omega
  ·simp only[hk]
   rw[aI]
   simp
   try omega
  ·simp only[hk]
   rw[aI]
   simp
   split<;>omega
  ·simp only[hk]
   rw[aI]
   simp
   try omega
  ·simp only[hk]
   rw[aI]
   simp
   try omega
  ·have n1:¬e.kind=1:=by omega
   have n2:¬e.kind=2:=by omega
   have n3:¬e.kind=3:=by omega
   have n4:¬e.kind=4:=by omega
   have n5:¬e.kind=5:=by omega
   have n6:¬e.kind=6:=by omega
   have n7:¬e.kind=7:=by omega
   have n8:¬e.kind=8:=by omega
   have n9:¬e.kind=9:=by omega
   have n10:¬e.kind=10:=by omega
   have n11:¬e.kind=11:=by omega
   have:¬e.kind≤11:=by omega
   simp[n1,n2,n3,n4,n5,n6,n7,n8,n9,n10,n11,this]
 unfold Fy
 rw[key]
section
variable {L:Nat→Option PFunc} (hL:∀k f,LS k=some f→L k=some f)
include hL
theorem Bx (t v:Int) (h:List PObj):wn L 169 [.int .i64 t,.int .i64 v] h=some (.bool (Bw t v),h):=by
 refine wJ (hL 169 _ rfl) rfl ?_
 by_cases h1:t=1
 ·subst h1
  by_cases h2:v=0
  ·simp[D8,Bw,h2]
  ·by_cases h3:v=1<;>simp[D8,Bw,h2,h3]
 ·by_cases h2:3≤t
  ·by_cases h3:0≤v<;>by_cases h4:v<16<;>simp[D8,Bw,h1,h2,h3,h4]
  ·simp[D8,Bw,h1,h2]
theorem By (o:Int) (h:List PObj):wn L 170 [.int .i64 o] h=some (.int .i64 (if o=1∨o=2 then 1 else 2),h):=by
 refine wJ (hL 170 _ rfl) rfl ?_
 by_cases h1:o=1
 ·simp[GR,h1]
 ·by_cases h2:o=2<;>simp[GR,h1,h2]
theorem Bz (t n:Int) (h:List PObj):wn L 171 [.int .i64 t,.int .i64 n] h=some (.bool (El t n),h):=by
 refine wJ (hL 171 _ rfl) rfl ?_
 by_cases h1:t=1
 ·subst h1
  by_cases h2:n=2<;>simp[Fo,El,h2]
 ·by_cases h2:3≤t
  ·by_cases h3:1≤n<;>by_cases h4:n≤16<;>simp[Fo,El,h1,h2,h3,h4]
  ·simp[Fo,El,h1,h2]
def xE (e:Expr):PV := .agg [.bool (ofA e),.bool (decide (e.kind=3)),.bool (ofT e),.bool (yj e.kind),.bool (decide (e.kind=11))]
theorem c5g (e:Expr) (hk:e.kind=1) (h:List PObj):wn L 163 [wq e] h=some (xE e,h):=by
 refine wJ (hL 163 _ rfl) rfl ?_
 have cN:=By hL e.op []
 have dV:=Bx hL e.t e.v []
 have eW:=Bz hL e.t e.args.length []
 obtain⟨n,hn⟩:∃n:Int,n=e.args.length:=⟨_,rfl⟩
 have kf:=kfs hk
 by_cases t0:e.t=0
 ·have t2:¬e.t=2:=by omega
  by_cases v0:e.v=0
  ·simp[yG,xE,ofA,ofT,yj,cN,dV,eW,wS,wz,kf,tf t0,tf t2,tf v0]
  ·simp[yG,xE,ofA,ofT,yj,cN,dV,eW,wS,wz,kf,tf t0,tf t2,tf v0]
 ·skip
  by_cases t2:e.t=2
  ·by_cases a1 : -32768≤e.v<;>by_cases a2:e.v≤32767<;>simp[yG,xE,ofA,ofT,yj,cN,dV,eW,wS,wz,kf,tf t0,tf t2,tf a1,tf a2]
  ·simp[yG,xE,ofA,ofT,yj,cN,dV,eW,wS,wz,kf,tf t0,tf t2]
theorem c5h (e:Expr) (hk:e.kind=2) (h:List PObj):wn L 163 [wq e] h=some (xE e,h):=by
 refine wJ (hL 163 _ rfl) rfl ?_
 have cN:=By hL e.op []
 have dV:=Bx hL e.t e.v []
 have eW:=Bz hL e.t e.args.length []
 obtain⟨n,hn⟩:∃n:Int,n=e.args.length:=⟨_,rfl⟩
 have kf:=kfs hk
 by_cases t0:e.t=0<;>by_cases v0:e.v=0<;>simp[yG,xE,ofA,ofT,yj,cN,dV,eW,wS,wz,kf,tf t0,tf v0]
theorem c5j (e:Expr) (hk:e.kind=3) (h:List PObj):wn L 163 [wq e] h=some (xE e,h):=by
 refine wJ (hL 163 _ rfl) rfl ?_
 have cN:=By hL e.op []
 have dV:=Bx hL e.t e.v []
 have eW:=Bz hL e.t e.args.length []
 obtain⟨n,hn⟩:∃n:Int,n=e.args.length:=⟨_,rfl⟩
 have kf:=kfs hk
 by_cases t0:e.t=0<;>by_cases v0:e.v=0<;>simp[yG,xE,ofA,ofT,yj,cN,dV,eW,wS,wz,kf,tf t0,tf v0]
theorem c5k (e:Expr) (hk:e.kind=4) (h:List PObj):wn L 163 [wq e] h=some (xE e,h):=by
 refine wJ (hL 163 _ rfl) rfl ?_
 have cN:=By hL e.op []
 have dV:=Bx hL e.t e.v []
 have eW:=Bz hL e.t e.args.length []
 obtain⟨n,hn⟩:∃n:Int,n=e.args.length:=⟨_,rfl⟩
 have kf:=kfs hk
 by_cases t0:e.t=0<;>by_cases v0:e.v=0<;>simp[yG,xE,ofA,ofT,yj,cN,dV,eW,wS,wz,kf,tf t0,tf v0]
theorem c5l (e:Expr) (hk:e.kind=5) (h:List PObj):wn L 163 [wq e] h=some (xE e,h):=by
 refine wJ (hL 163 _ rfl) rfl ?_
 have cN:=By hL e.op []
 have dV:=Bx hL e.t e.v []
 have eW:=Bz hL e.t e.args.length []
 obtain⟨n,hn⟩:∃n:Int,n=e.args.length:=⟨_,rfl⟩
 have kf:=kfs hk
 by_cases t0:e.t=0<;>by_cases v0:e.v=0<;>simp[yG,xE,ofA,ofT,yj,cN,dV,eW,wS,wz,kf,tf t0,tf v0]
theorem c5m (e:Expr) (hk:e.kind=6) (h:List PObj):wn L 163 [wq e] h=some (xE e,h):=by
 refine wJ (hL 163 _ rfl) rfl ?_
 have cN:=By hL e.op []
 have dV:=Bx hL e.t e.v []
 have eW:=Bz hL e.t e.args.length []
 obtain⟨n,hn⟩:∃n:Int,n=e.args.length:=⟨_,rfl⟩
 have kf:=kfs hk
 by_cases t0:e.t=0<;>by_cases v0:e.v=0<;>simp[yG,xE,ofA,ofT,yj,cN,dV,eW,wS,wz,kf,tf t0,tf v0]
theorem c5n (e:Expr) (hk:e.kind=7) (h:List PObj):wn L 163 [wq e] h=some (xE e,h):=by
 refine wJ (hL 163 _ rfl) rfl ?_
 have cN:=By hL e.op []
 have dV:=Bx hL e.t e.v []
 have eW:=Bz hL e.t e.args.length []
 obtain⟨n,hn⟩:∃n:Int,n=e.args.length:=⟨_,rfl⟩
 have kf:=kfs hk
 by_cases t0:e.t=0<;>by_cases v0:e.v=0<;>simp[yG,xE,ofA,ofT,yj,cN,dV,eW,wS,wz,kf,tf t0,tf v0]
theorem c5o (e:Expr) (hk:e.kind=8) (h:List PObj):wn L 163 [wq e] h=some (xE e,h):=by
 refine wJ (hL 163 _ rfl) rfl ?_
 have cN:=By hL e.op []
 have dV:=Bx hL e.t e.v []
 have eW:=Bz hL e.t e.args.length []
 obtain⟨n,hn⟩:∃n:Int,n=e.args.length:=⟨_,rfl⟩
 have kf:=kfs hk
 by_cases t0:e.t=0
 ·have t2:¬e.t=2:=by omega
  by_cases v0:e.v=0
  ·simp[yG,xE,ofA,ofT,yj,cN,dV,eW,wS,wz,kf,tf t0,tf t2,tf v0]
  ·simp[yG,xE,ofA,ofT,yj,cN,dV,eW,wS,wz,kf,tf t0,tf t2,tf v0]
 ·skip
  by_cases t2:e.t=2<;>simp[yG,xE,ofA,ofT,yj,cN,dV,eW,wS,wz,kf,tf t0,tf t2]
theorem c5p (e:Expr) (hk:e.kind=9) (h:List PObj):wn L 163 [wq e] h=some (xE e,h):=by
 refine wJ (hL 163 _ rfl) rfl ?_
 have cN:=By hL e.op []
 have dV:=Bx hL e.t e.v []
 have eW:=Bz hL e.t e.args.length []
 obtain⟨n,hn⟩:∃n:Int,n=e.args.length:=⟨_,rfl⟩
 have kf:=kfs hk
 by_cases t0:e.t=0
 ·have t2:¬e.t=2:=by omega
  by_cases v0:e.v=0
  ·simp[yG,xE,ofA,ofT,yj,cN,dV,eW,wS,wz,kf,tf t0,tf t2,tf v0]
  ·simp[yG,xE,ofA,ofT,yj,cN,dV,eW,wS,wz,kf,tf t0,tf t2,tf v0]
 ·skip
  by_cases t2:e.t=2<;>simp[yG,xE,ofA,ofT,yj,cN,dV,eW,wS,wz,kf,tf t0,tf t2]
theorem c2C (e:Expr) (hk:e.kind=10) (h:List PObj):wn L 163 [wq e] h=some (xE e,h):=by
 refine wJ (hL 163 _ rfl) rfl ?_
 have cN:=By hL e.op []
 have dV:=Bx hL e.t e.v []
 have eW:=Bz hL e.t e.args.length []
 obtain⟨n,hn⟩:∃n:Int,n=e.args.length:=⟨_,rfl⟩
 have kf:=kfs hk
 by_cases t0:e.t=0
 ·have t2:¬e.t=2:=by omega
  by_cases v0:e.v=0
  ·simp[yG,xE,ofA,ofT,yj,cN,dV,eW,wS,wz,kf,tf t0,tf t2,tf v0]
  ·by_cases v1:e.v=1<;>simp[yG,xE,ofA,ofT,yj,cN,dV,eW,wS,wz,kf,tf t0,tf t2,tf v0,tf v1]
 ·skip
  by_cases v1:e.v=1<;>simp[yG,xE,ofA,ofT,yj,cN,dV,eW,wS,wz,kf,tf t0,tf v1]
theorem c2D (e:Expr) (hk:e.kind=11) (h:List PObj):wn L 163 [wq e] h=some (xE e,h):=by
 refine wJ (hL 163 _ rfl) rfl ?_
 have cN:=By hL e.op []
 have dV:=Bx hL e.t e.v []
 have eW:=Bz hL e.t e.args.length []
 obtain⟨n,hn⟩:∃n:Int,n=e.args.length:=⟨_,rfl⟩
 have kf:=kfs hk
 by_cases t0:e.t=0<;>by_cases v0:e.v=0<;>simp[yG,xE,ofA,ofT,yj,cN,dV,eW,wS,wz,kf,tf t0,tf v0]
theorem d2g (e:Expr) (h:List PObj):wn L 163 [wq e] h=some (xE e,h):=by
 rcases O1 e.kind with hk|hk|hk|hk|hk|hk|hk|hk|hk|hk|hk|hk|hk
 ·refine wJ (hL 163 _ rfl) rfl ?_
  have k1:¬e.kind=1:=by omega
  have k2:¬e.kind=2:=by omega
  have k3:¬e.kind=3:=by omega
  have k4:¬e.kind=4:=by omega
  have k5:¬e.kind=5:=by omega
  have k6:¬e.kind=6:=by omega
  have k7:¬e.kind=7:=by omega
  have k8:¬e.kind=8:=by omega
  have k9:¬e.kind=9:=by omega
  have k10:¬e.kind=10:=by omega
  have k11:¬e.kind=11:=by omega
  have kr:¬(1≤e.kind∧e.kind≤11):=by omega
  have ht:ofT e=false:=by unfold ofT; simp only[k1,k8,k9,k10,kr,if_false]
  have ha:ofA e=false:=by unfold ofA; simp only[k1,k2,k3,k4,k5,k6,k7,k8,k9,k10,k11,or_self,if_false]
  by_cases t0:e.t=0<;>by_cases v0:e.v=0<;>simp[yG,xE,ha,ht,yj,wS,wz,k1,k2,k3,k4,k5,k6,k7,k8,k9,k10,k11,tf t0,tf v0]
 ·exact c5g hL e hk h
 ·exact c5h hL e hk h
 ·exact c5j hL e hk h
 ·exact c5k hL e hk h
 ·exact c5l hL e hk h
 ·exact c5m hL e hk h
 ·exact c5n hL e hk h
 ·exact c5o hL e hk h
 ·exact c5p hL e hk h
 ·exact c2C hL e hk h
 ·exact c2D hL e hk h
 ·refine wJ (hL 163 _ rfl) rfl ?_
  have k1:¬e.kind=1:=by omega
  have k2:¬e.kind=2:=by omega
  have k3:¬e.kind=3:=by omega
  have k4:¬e.kind=4:=by omega
  have k5:¬e.kind=5:=by omega
  have k6:¬e.kind=6:=by omega
  have k7:¬e.kind=7:=by omega
  have k8:¬e.kind=8:=by omega
  have k9:¬e.kind=9:=by omega
  have k10:¬e.kind=10:=by omega
  have k11:¬e.kind=11:=by omega
  have kr:¬(1≤e.kind∧e.kind≤11):=by omega
  have ht:ofT e=false:=by unfold ofT; simp only[k1,k8,k9,k10,kr,if_false]
  have ha:ofA e=false:=by unfold ofA; simp only[k1,k2,k3,k4,k5,k6,k7,k8,k9,k10,k11,or_self,if_false]
  by_cases t0:e.t=0<;>by_cases v0:e.v=0<;>simp[yG,xE,ha,ht,yj,wS,wz,k1,k2,k3,k4,k5,k6,k7,k8,k9,k10,k11,tf t0,tf v0]
theorem c85 (e:Expr) (h:List PObj):wn L 150 [wq e] h=some (.int .i64 (Bv e),h):=by
 refine wJ (hL 150 _ rfl) rfl ?_
 have iy:=d2g hL e []
 have ge:=OL hL e.name []
 obtain⟨b1,b2,wa,wb,er,f1,f2,tr,tw⟩:=c2B hL e.name []
 have dg:=c0S e
 unfold Bv
 by_cases cM:64<e.args.length
 ·have dS:(64:Int)<e.args.length:=by omega
  have et:¬e.args.length≤64:=by omega
  simp[zJ,cM,dS,et,need,wx]
 have dS:¬(64:Int)<e.args.length:=by omega
 have et:e.args.length≤64:=by omega
 unfold xE at iy
 generalize ofA e=A at *
 generalize ofT e=T at *
 cases A with
 | false=>simp[zJ,cM,dS,et,iy,wS,dg,need,wx]
 | true=>
 cases T with
 | false=>simp[zJ,cM,dS,et,iy,wS,dg,need,wx]
 | true=>
 simp only[cn] at dg
 have r9:(Ei e=true∧(e.kind=3→e.op≠0∧1≤e.op∧e.op≤16)∧(e.kind≠3→e.op=0))∨(Ei e=false∧(e.kind=3→e.op<1∨16<e.op)∧(e.kind≠3→e.op≠0)):=by
  unfold Ei
  by_cases hk:e.kind=3
  ·by_cases ho:1≤e.op∧e.op≤16
   ·left; simp[hk,ho]; omega
   ·right; simp[hk]; omega
  ·by_cases ho:e.op=0
   ·left; simp[hk,ho]
   ·right; simp[hk,ho]
 rcases r9 with⟨q1,q2,q3⟩|⟨q1,q2,q3⟩
 ·rw[q1,cn] at dg
  have fM:∀(O:Bool),(decide (e.kind=3))=O→wpL L zJ.code ⟨[wq e,.dead,.dead,.dead,.dead,.dead],[],0,h⟩ (CU [.var 2] (.int .i64 (wx (need (decide (e.args.length≤64)) 3) (wx (need (Fy e) 5) (need (!yj e.kind||zf e.name) 6))),h)):=by
   intro O hO
   have oT:(O=true→¬e.op=0∧¬e.op<1∧¬16<e.op)∧(O=false→e.op=0):=by
    constructor
    ·intro ho; rw[ho,aq] at hO; have:=q2 hO; omega
    ·intro ho; rw[ho,bN] at hO; exact q3 hO
   rw[hO] at iy
   unfold Hm at dg
   generalize yj e.kind=N at *
   cases O with
   | true =>
     have hk:e.kind=3:=by simpa using hO
     have gB:¬e.kind=11:=by omega
     obtain⟨o1,o2,o3⟩:=oT.1 rfl
     cases N with
     | true =>
       cases hi:zf e.name<;>rw[hi] at ge<;>simp[zJ,cM,dS,et,iy,wS,dg,ge,o1,o2,o3,need,wx]
     | false =>
       by_cases gx:e.name=[]
       ·simp[zJ,cM,dS,et,iy,wS,dg,tf gx,o1,o2,o3,tf gB,need,wx]
       ·simp[zJ,cM,dS,et,iy,wS,dg,tf gx,o1,o2,o3,tf gB,need,wx]
   | false =>
     have o1:=oT.2 rfl
     cases N with
     | true =>
       cases hi:zf e.name<;>rw[hi] at ge<;>simp[zJ,cM,dS,et,iy,wS,dg,ge,tf o1,need,wx]
     | false =>
       by_cases gB:e.kind=11
       ·by_cases he:er=0
        ·have hw:=tr.1 he
         simp[zJ,cM,dS,et,iy,wS,dg,tw,f1,f2,tf gB,he,hw,tf o1,need,wx]
        ·have hw:Dn e.name=false:=by
          rw[← Bool.not_eq_true]; exact λhh=>he (tr.2 hh)
         by_cases gx:e.name=[]<;>simp[zJ,cM,dS,et,iy,wS,dg,tw,f1,f2,tf gB,he,hw,tf o1,tf gx,need,wx]
       ·by_cases gx:e.name=[]
        ·simp[zJ,cM,dS,et,iy,wS,dg,tf gx,tf o1,tf gB,need,wx]
        ·simp[zJ,cM,dS,et,iy,wS,dg,tf gx,tf o1,tf gB,need,wx]
  have hq:=fM _ rfl
  rw[← c0x e] at hq
  exact hq
 ·rw[q1,bL] at dg
  by_cases hk:e.kind=3
  ·by_cases o0:e.op=0
   ·simp[zJ,cM,dS,et,iy,wS,dg,tf hk,tf o0,need,wx]
   ·rcases q2 hk with o1|o1
    ·simp[zJ,cM,dS,et,iy,wS,dg,tf hk,tf o0,o1,need,wx]
    ·have o2:¬e.op<1:=by omega
     simp[zJ,cM,dS,et,iy,wS,dg,tf hk,tf o0,o1,o2,need,wx]
  ·have o0:=q3 hk
   simp[zJ,cM,dS,et,iy,wS,dg,tf hk,tf o0,need,wx]
theorem c0T (e:Expr):e.parts≤1600→∀h,wn L 149 [wq e] h=some (.int .i64 e.depth,h):=by
 induction e using Expr.ind with
 | h e ih=>
 intro hp h
 have dp:=c2H e
 refine wJ (hL 149 _ rfl) rfl ?_
 simp[J0]
 refine c2w e.args.length (λi (x:PV×Nat)=>[(3,.int .i64 ((e.args.take i).foldl (λm x=>if x.depth>m then x.depth else m) 0)),(4,x.1),(7,.int .i64 i)]) (λ_ x=>x.2) (λ_ _=>h) (.dead,1) ?_ ?_ (by simp) rfl rfl
 ·intro i hi x ih2
  have hw:=wC i (by omega)
  have qe:=c04 (ai hi)
  have hc:=ih e.args[i] (ai hi) (by omega) []
  have ih2:=λy=>ih2 y
  rw[yD hi,List.foldl_append] at ih2
  generalize (e.args.take i).foldl (λm x=>if x.depth>m then x.depth else m) 0=a at *
  simp[hi,hw,hc,BE]
  simpa using ih2 (_,_)
 ·intro _
  have:=Expr.depth_eq e
  unfold wrap at this
  simp[this]
end
def yw (y:Expr→List PObj→Option (Out×List PObj)):List Expr→List PObj→Option (Out×List PObj)
 | [],h=>some (.val (.bool true),h)
 | x :: xs, h => match y x h with
   | some (.val (.bool true),h')=>yw y xs h'
   | r=>r
theorem O2 (y:Expr→List PObj→Option (Out×List PObj)):∀(a b:List Expr) (h:List PObj),yw y (a++b) h=match yw y a h with
  | some (.val (.bool true),h')=>yw y b h'
  | r=>r
 | [],b,h=>rfl
 | x :: a, b, h => by
   simp only[aJ,yw]
   split
   ·exact O2 y a b _
   ·rename_i da
    split
    ·rename_i h1; exact absurd h1 (da _)
    ·rfl
theorem FB {y:Expr→List PObj→Option (Out×List PObj)} {f:Expr→Int} {R:Int→Out×List PObj} {h:List PObj}:∀(l:List Expr),(∀x∈l,f x=0→y x h=some (.val (.bool true),h))→(∀x∈l,f x≠0→y x h=some (R (f x)))→(∀e h',R e≠(.val (.bool true),h'))→yw y l h=some (if ww f l=0 then(.val (.bool true),h) else R (ww f l))
 | [],_,_,_=>by simp[yw,ww]
 | x :: l, h1, h2, h3 => by
   simp only[yw]
   by_cases hx:f x=0
   ·rw[h1 x (by simp) hx]
    simp only[ww,hx,if_true]
    exact FB l (λz hz=>h1 z (by simp[hz])) (λz hz=>h2 z (by simp[hz])) h3
   ·rw[h2 x (by simp) hx]
    simp only[ww,hx,if_false]
    split
    ·rename_i hh; simp only[aa] at hh; exact absurd hh (h3 _ _)
    ·rfl
theorem O3 {y:Expr→List PObj→Option (Out×List PObj)} {H:Nat→List PObj}:∀(l:List Expr) (i:Nat),(∀x∈l,∀k,i≤k→k<i+l.length→y x (H k)=some (.val (.bool true),H (k+1)))→yw y l (H i)=some (.val (.bool true),H (i+l.length))
 | [],i,_=>rfl
 | x :: l, i, h => by
   simp only[yw,h x (by simp) i (ao _) (by simp)]
   rw[O3 l (i+1) (λz hz k h1 h2=>h z (by simp[hz]) k (by omega) (by simp; omega)),aP]
   congr 3; omega
theorem yAt (H0:List PObj) (R:Expr→Out×List PObj):∃y:Expr→List PObj→Option (Out×List PObj),(∀x,y x H0=some (R x))∧∀x h r,y x h=some r→h=H0∧r=R x:=by
 classical
 refine⟨λx h=>if h=H0 then some (R x) else none,λx=>ah rfl,λx h r hr =>?_⟩
 simp only at hr
 split at hr
 ·rename_i he; exact⟨he,(cE hr).symm⟩
 ·simp at hr
theorem yk (n:Nat) (cs:List PV) (off:Nat) (v:PV):wS n false cs off v=if off<cs.length∧v.flat=true then some (cs.set off v) else none:=rfl
section
variable {L:Nat→Option PFunc} {V l:List PV} {g:Nat} {h:List PObj}
@[simp] theorem d0T {n:Nat} {o o':PObj}:(h.set n o).set n o'=h.set n o':=List.set_set ..
theorem E6 {n:Nat} {o:PObj} (hn:h[n]? = some o):h.set n o=h:=by
 obtain⟨cQ,he⟩:=aj.1 hn
 rw[← he]; exact List.set_getElem_self cQ
end
section
variable {L:Nat→Option PFunc} (hL:∀k f,LS k=some f→L k=some f)
include hL
theorem c5q (kb:Nat) (first captured:List PV) (y:Expr→List PObj→Option (Out×List PObj)) (hfr:∀p∈first++captured,cp p=some p) (hb:∀x h r,y x h=some r→(∃b h',r=(.val (.bool b),h'))∨∃v h',r=(.boom v,h')) (e:Expr):EW e→(∀x∈e.list,∀h r,y x h=some r→wF L kb (first++[wq x]++captured) h=some r)→∀(h:List PObj) (r:Out×List PObj),yw y e.list h=some r→wF L 141 [wq e,.func kb first captured] h=some r:=by
 induction e using Expr.ind with
 | h e ih=>
 intro he hy h r hr
 obtain⟨_,_,dp⟩:=he.self
 rw[Expr.list_eq] at hr
 simp only[yw] at hr
 refine zg (hL 141 _ rfl) rfl ?_
 cases qn:y e h with
 | none=>rw[qn] at hr; simp at hr
 | some q =>
   rw[qn] at hr
   have jC:=hy e (by rw[Expr.list_eq]; simp) h q qn
   simp only[az] at jC
   rcases hb e h q qn with⟨b,h',rfl⟩|⟨v,h',rfl⟩
   ·cases b with
    | false =>
      simp only[aa] at hr
      subst hr
      simp at jC
      simp[BW,jC]
    | true =>
      simp only at hr
      simp at jC
      simp[BW,jC]
      suffices H:∀(n i:Nat) (h:List PObj) (x4:PV) (g:Nat),i+n=e.args.length→yw y ((e.args.drop i).flatMap Expr.list) h=some r→wpL L Fl ⟨[wq e,.func kb first captured,.loc 0 (wq e).cells,.bool false,x4,.list false (e.args.map wq),.int .i64 e.args.length,.int .i64 i],[],g,h⟩ (Bp 0 (B2 L (S (R [t 3 T]) Y) (BA L BW r))) by
       simpa[BW] using H e.args.length 0 h' .dead 1 (by omega) (by simpa using hr)
      intro n
      induction n with
      | zero =>
        intro i h x4 g hi hr
        have:i=e.args.length:=by omega
        subst this
        rw[be (ao _)] at hr
        simp only[List.flatMap_nil,yw,aa] at hr
        subst hr
        rw[Fl,Aw]
        simp[BW]
      | succ n ih2 =>
        intro i h x4 g hi hr
        have dL:i<e.args.length:=by omega
        have hw:=wC i (by omega)
        rw[aU dL,bc,O2] at hr
        rw[Fl,Aw]
        cases hq:yw y e.args[i].list h with
        | none=>rw[hq] at hr; simp at hr
        | some q =>
          have hc:=ih e.args[i] (ai dL) (he.arg (ai dL)) (λx hx=>hy x (by rw[Expr.list_eq]; exact bC _ (bJ.2 ⟨_,ai dL,hx⟩))) h q hq
          rw[hq] at hr
          have jL:(∃b h',q=(.val (.bool b),h'))∨∃v h',q=(.boom v,h'):=by
           have key:∀(l:List Expr) (h:List PObj) (q),yw y l h=some q→(∃b h',q=(.val (.bool b),h'))∨∃v h',q=(.boom v,h'):=by
            intro l
            induction l with
            | nil=>intro h q hq; simp only[yw,aa] at hq; exact .inl ⟨true,h,hq.symm⟩
            | cons x l ihl =>
              intro h q hq
              simp only[yw] at hq
              split at hq
              ·exact ihl _ _ hq
              ·exact hb _ _ _ hq
           exact key _ _ _ hq
          rcases jL with⟨b,h2,rfl⟩|⟨v,h2,rfl⟩
          ·cases b with
           | false =>
             simp only[aa] at hr
             subst hr
             simp[dL,hc,BW]
           | true =>
             simp only at hr
             simp[dL,hc,hw]
             have:=ih2 (i+1) h2 (.loc g (wq e.args[i]).cells) (g+1) (by omega) hr
             rw[Fl] at this
             simpa using this
          ·simp only[aa] at hr
           subst hr
           simp[dL,hc,BW]
   ·simp only[aa] at hr
    subst hr
    simp at jC
    simp[BW,jC]
theorem Ed (e:Expr) (h:List PObj):wn L 81 [wq e] h=some (.func 114 [] [.cptr (wq e).cells],h):=by
 refine wJ (hL 81 _ rfl) rfl ?_
 simp[JC]
theorem Ek {V l:List PV} {g:Nat} {h:List PObj} {Q:PExit→St→Prop} {x:PX} {kb:Nat} {caps:List PX} {cs:List PV} (e:Expr) (he:EW e) (hx:rd ⟨V,l,g,h⟩ x=some (.func 114 [] [.cptr (wq e).cells])) (hc:rdAll ⟨V,l,g,h⟩ caps=some cs) (d9:∀p∈cs,cp p=some p)
  (y:Expr→List PObj→Option (Out×List PObj)) (hy:∀x∈e.list,∀h' r,y x h'=some r→wF L kb (.ptr h.length 0::(cs++[wq x])) h'=some r) (hb:∀x h r,y x h=some r→(∃b h',r=(.val (.bool b),h'))∨∃v h',r=(.boom v,h'))
  (r:Out×List PObj) (hr:yw y e.list (h++[.loop true])=some r) (hq:At V l g h.length Q r):wpL L (.rangeF x kb caps) ⟨V,l,g,h⟩ Q:=by
 have gX:Cv L 114=true:=by unfold Cv; rw[hL 114 _ rfl]; rfl
 have hE:=c5q hL kb (.ptr h.length 0::cs) [] y (by
  intro p hp
  simp only[aV,ay] at hp
  rcases hp with rfl|hp
  ·rfl
  ·exact d9 p hp) hb e he (λx hx h' r hr=>by have:=hy x hx h' r hr; simpa using this) _ r hr
 have ho:∃r',wF L 114 ([] ++ .func kb (.ptr h.length 0::cs) []::[.cptr (wq e).cells]) (h++[.loop true])=some r'∧At V l g h.length Q r':=by
  obtain⟨o,h'⟩:=r
  cases o with
  | val v =>
    refine⟨(.val (.tuple []),h'),?_,hq⟩
    refine zg (hL 114 _ rfl) rfl ?_
    simp[GL,hE]
  | boom v =>
    refine⟨(.boom v,h'),?_,hq⟩
    refine zg (hL 114 _ rfl) rfl ?_
    simp[GL,hE]
 obtain⟨r',h1,h2⟩:=ho
 exact b8T hx hc gX h1 h2
theorem c2E (e:Expr) (he:EW e) (hp:e.parts≤1600) (h:List PObj):wn L 148 [wq e] []=some (.int .i64 e.parts,[.cells [.int .i64 e.parts],.gone]):=by
 refine wJ (hL 148 _ rfl) rfl ?_
 have hE:=Ed hL e [.cells [.int .i64 0]]
 simp[JZ,hE]
 have ey:∀(x:Expr) (c:Nat),c≤1600→wF L 193 [.ptr 1 0,.ptr 0 0,wq x] [.cells [.int .i64 c],.loop true]=some (.val (.bool true),[.cells [.int .i64 (c+1:Nat)],.loop true]):=by
  intro x c hc
  have hw:=wC c (by omega)
  refine ES (as:=[.ptr 0 0,wq x]) (hL 193 _ rfl) rfl rfl rfl ?_
  simp[J5,hw,yk,wz]
 refine Ek hL e he (cs:=[.ptr 0 0]) (by simp) (by simp) (by simp) (λx h=>match h with | [.cells [.int .i64 c],.loop true]=>if 0≤c∧c≤1600 then some (.val (.bool true),[.cells [.int .i64 (c+1)],.loop true]) else none | _=>none) ?_ ?_ (.val (.bool true),[.cells [.int .i64 e.parts],.loop true]) ?_ ?_
 ·intro x _ h' r hr
  split at hr
  ·split at hr
   ·rename_i c hc
    simp only[aa] at hr
    subst hr
    obtain⟨n,rfl⟩:=Int.eq_ofNat_of_zero_le hc.1
    have:=ey x n (by omega)
    simpa using this
   ·simp at hr
  ·simp at hr
 ·intro x h r hr
  split at hr
  ·split at hr
   ·simp only[aa] at hr; exact .inl ⟨true,_,hr.symm⟩
   ·simp at hr
  ·simp at hr
 ·have:=O3 (y:=λx h=>match h with | [.cells [.int .i64 c],.loop true]=>if 0≤c∧c≤1600 then some (.val (.bool true),[.cells [.int .i64 (c+1)],.loop true]) else none | _=>none) (H:=λk=>[.cells [.int .i64 k],.loop true]) e.list 0 (by
   intro x hx k h1 h2
   have hk:k≤1600:=by have:e.list.length=e.parts:=rfl; omega
   have:(0:Int)≤(k:Int)∧(k:Int)≤1600:=by omega
   simp[this])
  have cM:e.list.length=e.parts:=rfl
  rw[cM] at this
  simp only[aR] at this
  simpa using this
 ·simp[At]
def Do (f:Expr→Int) (x:Expr):List PObj→Option (Out×List PObj)
 | [.cells [c],.loop true]=>some (if f x=0 then(.val (.bool true),[.cells [c],.loop true]) else(.val (.bool false),[.cells [.int .i64 (f x)],.over none]))
 | _=>none
theorem c86 (f:Expr→Int) (x:Expr) (h:List PObj) (r:Out×List PObj) (hr:Do f x h=some r):(∃b h',r=(.val (.bool b),h'))∨∃v h',r=(.boom v,h'):=by
 have _:=hL
 unfold Do at hr
 split at hr
 ·simp only[aa] at hr
  subst hr
  split
  ·exact .inl ⟨_,_,rfl⟩
  ·exact .inl ⟨_,_,rfl⟩
 ·simp at hr
theorem c2F (f:Expr→Int) (c:PV) (l:List Expr):yw (Do f) l [.cells [c],.loop true]=some (if ww f l=0 then(.val (.bool true),[.cells [c],.loop true]) else(.val (.bool false),[.cells [.int .i64 (ww f l)],.over none])):=by
 have _:=hL
 refine FB (R:=λe=>(.val (.bool false),[.cells [.int .i64 e],.over none])) l ?_ ?_ ?_
 ·intro x _ hx; simp[Do,hx]
 ·intro x _ hx; simp[Do,hx]
 ·intro e h'; simp
theorem c0U (e:Expr) (he:EW e) (hp:e.parts≤1600):∃h',wn L 122 [wq e] []=some (.int .i64 (Dl e),h'):=by
 suffices H:∃r,wn L 122 [wq e] []=some r∧r.1 = .int .i64 (Dl e) by
  obtain⟨⟨v,h'⟩,h1,h2⟩:=H
  exact⟨h',by rw[h1]; simp only at h2; rw[h2]⟩
 refine zq (hL 122 _ rfl) rfl ?_
 have h1:=c2E hL e he hp []
 have h2:=c0T hL e hp []
 have hE:=Ed hL e [.cells [.int .i64 0]]
 have cS:=b9t hp
 unfold Dl
 rw[cS]
 by_cases b1:(400:Int)<e.parts
 ·have b2:¬(e.parts:Int)≤400:=by omega
  have b3:400<e.parts:=by omega
  have b4:¬e.parts≤400:=by omega
  simp[Fj,h1,b1,b2,b3,b4,need,wx,yk,wz,xm]
 ·have b2:(e.parts:Int)≤400:=by omega
  have b3:¬400<e.parts:=by omega
  have b4:e.parts≤400:=by omega
  by_cases d1:32<e.depth
  ·have d2:¬e.depth≤32:=by omega
   simp[Fj,h1,h2,b1,b2,b3,b4,d1,d2,need,wx,yk,wz,xm]
  ·have d2:e.depth≤32:=by omega
   simp[Fj,h1,h2,b1,b2,b3,b4,d1,d2,hE]
   have ey:∀(x:Expr) (c:PV),wF L 191 [.ptr 1 0,.ptr 0 0,wq x] [.cells [c],.loop true]=some (if Bv x=0 then(.val (.bool true),[.cells [c],.loop true]) else(.val (.bool false),[.cells [.int .i64 (Bv x)],.over none])):=by
    intro x c
    have ho:=c85 hL x []
    refine ES (as:=[.ptr 0 0,wq x]) (hL 191 _ rfl) rfl rfl rfl ?_
    by_cases hz:Bv x=0
    ·rw[hz] at ho
     simp[GY,ho,hz]
    ·simp[GY,ho,hz,yk]
   refine Ek hL e he (cs:=[.ptr 0 0]) (by simp) (by simp) (by simp) (Do Bv) ?_ (c86 hL Bv) _ (c2F hL Bv (.int .i64 0) e.list) ?_
   ·intro x _ h' r hr
    unfold Do at hr
    split at hr
    ·simp only[aa] at hr
     subst hr
     simpa using ey x _
    ·simp at hr
   ·by_cases hf:ww Bv e.list=0
    ·simp[hf,At,yk,wz,xm]
    ·simp[hf,At,wz,xm]
theorem O4 (e:Expr) (he:EW e):∃h',wn L 147 [wq e] []=some (.bool (Dp e),h'):=by
 suffices H:∃r,wn L 147 [wq e] []=some r∧r.1 = .bool (Dp e) by
  obtain⟨⟨v,h'⟩,h1,h2⟩:=H
  exact⟨h',by rw[h1]; simp only at h2; rw[h2]⟩
 refine zq (hL 147 _ rfl) rfl ?_
 have hE:=Ed hL e [.cells [.bool false]]
 obtain⟨f,hf⟩:∃f:Expr→Int,∀x,f x=if x.kind=5∨x.kind=6∨x.kind=7∨x.kind=10∨x.kind=11 then 1 else 0:=⟨_,λ_=>rfl⟩
 have du:Dp e=decide (ww f e.list=0):=by
  unfold Dp
  rw[aI,aD,aq,zd]
  constructor
  ·intro h x hx
   have:=h x hx
   rw[hf,af (by simpa using this)]
  ·intro h x hx
   have:=h x hx
   rw[hf] at this
   split at this
   ·simp at this
   ·rename_i hn; simpa using hn
 rw[du]
 simp[JY,hE]
 have ey:∀(x:Expr) (c:PV),wF L 192 [.ptr 1 0,.ptr 0 0,wq x] [.cells [c],.loop true]=some (if f x=0 then(.val (.bool true),[.cells [c],.loop true]) else(.val (.bool false),[.cells [.bool false],.over none])):=by
  intro x c
  refine ES (as:=[.ptr 0 0,wq x]) (hL 192 _ rfl) rfl rfl rfl ?_
  rw[hf]
  by_cases k5:x.kind=5
  ·simp[CP,tf k5,yk]
  by_cases k6:x.kind=6
  ·simp[CP,tf k5,tf k6,yk]
  by_cases k7:x.kind=7
  ·simp[CP,tf k5,tf k6,tf k7,yk]
  by_cases k10:x.kind=10
  ·simp[CP,tf k5,tf k6,tf k7,tf k10,yk]
  by_cases k11:x.kind=11
  ·simp[CP,tf k5,tf k6,tf k7,tf k10,tf k11,yk]
  simp[CP,tf k5,tf k6,tf k7,tf k10,tf k11]
 obtain⟨y,hy⟩:∃y:Expr→List PObj→Option (Out×List PObj),∀x h,y x h=match h with
  | [.cells [c],.loop true]=>some (if f x=0 then(.val (.bool true),[.cells [c],.loop true]) else(.val (.bool false),[.cells [.bool false],.over none]))
  | _=>none:=⟨_,λ_ _=>rfl⟩
 have oU:yw y e.list [.cells [.bool false],.loop true]=some (if ww f e.list=0 then(.val (.bool true),[.cells [.bool false],.loop true]) else(.val (.bool false),[.cells [.bool false],.over none])):=by
  refine FB (f:=f) (R:=λ_=>(.val (.bool false),[.cells [.bool false],.over none])) e.list ?_ ?_ ?_
  ·intro x _ hx; simp[hy,hx]
  ·intro x _ hx; simp[hy,hx]
  ·intro e h'; simp
 refine Ek hL e he (cs:=[.ptr 0 0]) (by simp) (by simp) (by simp) y ?_ ?_ _ oU ?_
 ·intro x _ h' r hr
  rw[hy] at hr
  split at hr
  ·simp only[aa] at hr
   subst hr
   simpa using ey x _
  ·simp at hr
 ·intro x h r hr
  rw[hy] at hr
  split at hr
  ·simp only[aa] at hr
   subst hr
   split
   ·exact .inl ⟨_,_,rfl⟩
   ·exact .inl ⟨_,_,rfl⟩
  ·simp at hr
 ·by_cases hz:ww f e.list=0
  ·simp[hz,At,yk,wz,xm]
  ·simp[hz,At,wz,xm]
theorem c0V (en:List Enum) (e:Expr) (he:EW e) (o:Bool) (h:List PObj):wn L 123 [.list o (en.map wE),wq e] h=some (.int .i64 (AO en e),h):=by
 refine wJ (hL 123 _ rfl) rfl ?_
 obtain⟨ht,_,_⟩:=he.self
 have hs:=Hu hL en e.t ht false []
 have hh:=FC hL en e.t e.v ht false []
 unfold AO
 rcases(by omega:e.kind=1∨e.kind=8∨e.kind=9∨(¬e.kind=1∧¬e.kind=8∧¬e.kind=9)) with hk|hk|hk|⟨h1,h8,h9⟩
 ·have h8:¬e.kind=8:=by omega
  have h9:¬e.kind=9:=by omega
  by_cases hz:xZ en e.t=0
  ·have eP:¬0<xZ en e.t:=by omega
   simp[BV,tf hk,tf h8,tf h9,hs,hz,eP,need,wx]
  ·have eP:0<xZ en e.t:=by omega
   have eD:(0:Int)<xZ en e.t:=by omega
   cases hq:BZ en e.t e.v<;>rw[hq] at hh<;>simp[BV,tf hk,tf h8,tf h9,hs,hh,hz,eP,eD,hq,need,wx]
 ·have h1:¬e.kind=1:=by omega
  have h9:¬e.kind=9:=by omega
  by_cases hz:xZ en e.t=0
  ·have eP:¬0<xZ en e.t:=by omega
   simp[BV,tf hk,tf h1,tf h9,hs,hz,eP,need,wx]
  ·have eP:0<xZ en e.t:=by omega
   have eD:(0:Int)<xZ en e.t:=by omega
   cases hq:BZ en e.t e.v<;>rw[hq] at hh<;>simp[BV,tf hk,tf h1,tf h9,hs,hh,hz,eP,eD,hq,need,wx]
 ·have h1:¬e.kind=1:=by omega
  have h8:¬e.kind=8:=by omega
  by_cases hz:xZ en e.t=0
  ·have eP:¬0<xZ en e.t:=by omega
   simp[BV,tf hk,tf h1,tf h8,hs,hz,eP,need,wx]
  ·have eP:0<xZ en e.t:=by omega
   by_cases hl:e.args.length=xZ en e.t
   ·have iP:((e.args.length:Int)=(xZ en e.t:Int))=True:=eq_true (by omega)
    simp[BV,tf hk,tf h1,tf h8,hs,hz,eP,iP,tf hl,need,wx]
   ·have iP:((e.args.length:Int)=(xZ en e.t:Int))=False:=eq_false (by omega)
    simp[BV,tf hk,tf h1,tf h8,hs,hz,eP,iP,tf hl,need,wx]
 ·simp[BV,tf h1,tf h8,tf h9,hs]
theorem Dq (en:List Enum) (e:Expr) (he:XW e) (o:Bool):∃h',wn L 94 [.list o (en.map wE),wq e] []=some (.int .i64 (Aq en e),h'):=by
 suffices H:∃r,wn L 94 [.list o (en.map wE),wq e] []=some r∧r.1 = .int .i64 (Aq en e) by
  obtain⟨⟨v,h'⟩,h1,h2⟩:=H
  exact⟨h',by rw[h1]; simp only at h2; rw[h2]⟩
 refine zq (hL 94 _ rfl) rfl ?_
 obtain⟨h',hc⟩:=c0U hL e he.ew he.parts
 have hE:=Ed hL e [.cells [.list false (en.map wE)],.cells [.int .i64 0]]
 unfold Aq
 by_cases hz:Dl e=0
 ·rw[hz] at hc ⊢
  rw[zw]
  simp[GJ,hc,hE]
  have ey:∀(x:Expr),EW x→∀(c:PV),wF L 189 [.ptr 2 0,.ptr 0 0,.ptr 1 0,wq x] [.cells [.list false (en.map wE)],.cells [c],.loop true]=some (if AO en x=0 then(.val (.bool true),[.cells [.list false (en.map wE)],.cells [c],.loop true]) else(.val (.bool false),[.cells [.list false (en.map wE)],.cells [.int .i64 (AO en x)],.over none])):=by
   intro x hx c
   have ho:=c0V hL en x hx false []
   refine ES (as:=[.ptr 0 0,.ptr 1 0,wq x]) (hL 189 _ rfl) rfl rfl rfl ?_
   by_cases hz:AO en x=0
   ·rw[hz] at ho
    simp[GX,ho,hz,wz]
   ·simp[GX,ho,hz,yk,wz]
  obtain⟨y,lw,qo⟩:=yAt [.cells [.list false (en.map wE)],.cells [.int .i64 0],.loop true] (λx=>if AO en x=0 then(.val (.bool true),[.cells [.list false (en.map wE)],.cells [.int .i64 0],.loop true]) else(.val (.bool false),[.cells [.list false (en.map wE)],.cells [.int .i64 (AO en x)],.over none]))
  have oU:yw y e.list [.cells [.list false (en.map wE)],.cells [.int .i64 0],.loop true]=some (if ww (AO en) e.list=0 then(.val (.bool true),[.cells [.list false (en.map wE)],.cells [.int .i64 0],.loop true]) else(.val (.bool false),[.cells [.list false (en.map wE)],.cells [.int .i64 (ww (AO en) e.list)],.over none])):=by
   refine FB (f:=AO en) (R:=λq=>(.val (.bool false),[.cells [.list false (en.map wE)],.cells [.int .i64 q],.over none])) e.list ?_ ?_ ?_
   ·intro x _ hx; rw[lw,ah hx]
   ·intro x _ hx; rw[lw,af hx]
   ·intro e h'; simp
  refine Ek hL e he.ew (cs:=[.ptr 0 0,.ptr 1 0]) (by simp) (by simp) (by simp) y ?_ ?_ _ oU ?_
  ·intro x hx h' r hr
   obtain⟨rfl,rfl⟩:=qo x h' r hr
   simpa using ey x (he.ew.mem hx) (.int .i64 0)
  ·intro x h r hr
   obtain⟨rfl,rfl⟩:=qo x h r hr
   split
   ·exact .inl ⟨_,_,rfl⟩
   ·exact .inl ⟨_,_,rfl⟩
  ·by_cases hf:ww (AO en) e.list=0
   ·simp[hf,At,yk,wz,xm]
   ·simp[hf,At,wz,xm]
 ·simp[GJ,hc,hz,wx,yk,wz,xm]
end
def xC (t:Nat) (a b e:Int):PV := .iface t (.agg [.int .i64 a,.int .i64 b,.int .i64 e])
def wy (t:Nat) (a b e:Int):Out:=if e=0 then .val (.tuple []) else .boom (xC t a b e)
theorem w9 (t:Nat) (a b:Int):wy t a b 0 = .val (.tuple []):=rfl
theorem zh {t:Nat} {a b e:Int} (h:e≠0):wy t a b e = .boom (xC t a b e):=af h
def wY (en:List Enum) (a b:Int):PObj := .cells [.list false (en.map wE),.int .i64 a,.int .i64 b]
section
variable {L:Nat→Option PFunc} (hL:∀k f,LS k=some f→L k=some f)
include hL
variable (en:List Enum) (n:Nat) (a b:Int) (h:List PObj) (hn:h[n]? = some (wY en a b))
include hn
theorem Cq (e:Int):wF L 49 [.ptr n 0,.bool true,.int .i64 e] h=some (.val (.tuple []),h):=by
 have _:=hn
 refine zg (hL 49 _ rfl) rfl ?_
 simp[GE]
theorem B3 (e:Int):wF L 49 [.ptr n 0,.bool false,.int .i64 e] h=some (.boom (xC 2 a b e),h):=by
 refine zg (hL 49 _ rfl) rfl ?_
 simp[GE,hn,wY,xC]
theorem FD (s:Str):wF L 89 [.ptr n 0,.str s] h=some (wy 2 a b (zu s),h):=by
 have hi:=OL hL s []
 have hT:=Cq hL en n a b h hn
 have hF:=B3 hL en n a b h hn
 refine zg (hL 89 _ rfl) rfl ?_
 unfold zu
 cases hs:zf s<;>rw[hs] at hi<;>simp[JG,hi,hT,hF,wy]
theorem Kw (e:Int):wF L 93 [.ptr n 0,.int .i64 e] h=some (wy 2 a b e,h):=by
 have hT:=Cq hL en n a b h hn
 have hF:=B3 hL en n a b h hn
 refine zg (hL 93 _ rfl) rfl ?_
 by_cases he:e=0
 ·subst he; simp[GI,hT,wy]
 ·simp[GI,hF,he,wy]
theorem c5s (u:Enum) (hu:u.tags.length≤1600):wF L 50 [.ptr n 0,wE u] h=some (wy 2 a b (Dr u),h):=by
 have hi:=λs=>FD hL en n a b h hn s
 have hT:=Cq hL en n a b h hn
 have hF:=B3 hL en n a b h hn
 refine zg (hL 50 _ rfl) rfl ?_
 unfold Dr
 by_cases h0:zu u.name=0
 ·by_cases h1:u.tags=[]
  ·simp[D3,hi,h0,h1,hF,need,wx,wy]
  ·have ky:0<u.tags.length:=bU.2 h1
   have fy:(0:Int)<u.tags.length:=by omega
   by_cases h2:u.tags.length≤16
   ·have kz:(u.tags.length:Int)≤16:=by omega
    simp[D3,hi,h0,h1,ky,fy,h2,kz,hT,w9]
    refine Kq u.tags zu (λi (x:PV)=>[(3,x),(6,.int .i64 i)]) .dead ?_ ?_ ?_ rfl
    ·intro i dL cY x ih
     have hw:=wC i (by omega)
     simp[dL,hw,hi,cY,w9]
     simpa using ih _
    ·intro i dL cY hf x
     simp[dL,hi,zh cY,hf]
    ·intro h0 x
     simp[h0,w9]
   ·have kz:¬(u.tags.length:Int)≤16:=by omega
    simp[D3,hi,h0,h1,ky,fy,h2,kz,hT,hF,need,wx,wy]
 ·simp[D3,hi,h0,wx,wy]
theorem FE (l:List Decl) (hl:l.length≤1600) (hd:∀d∈l,DW d) (port:Bool) (o:Bool):wF L 90 [.ptr n 0,.list o (l.map wv),.bool port] h=some (wy 2 a b (ww (yQ en port) l),h):=by
 have hi:=λs=>FD hL en n a b h hn s
 have hT:=Cq hL en n a b h hn
 have hF:=B3 hL en n a b h hn
 refine zg (hL 90 _ rfl) rfl ?_
 simp[JH]
 refine zM l (yQ en port) (λi (x:(PV×PV×PV×PV×PV)×Nat)=>[(3,x.1.1),(4,x.1.2.1),(8,x.1.2.2.1),(9,x.1.2.2.2.1),(10,x.1.2.2.2.2),(7,.int .i64 i)]) (λ_ x=>x.2) (λ_ _=>h) ((.dead,.dead,.dead,.dead,.dead),0) ?_ ?_ ?_ rfl rfl rfl
 ·intro i dL cY x ih
  have hw:=wC i (by omega)
  have lx:=hd _ (ai dL)
  have dN:=lx.clock
  have hs:=Hu hL en l[i].type lx.type false []
  unfold yQ at cY
  rw[yK,yK,yK,yK,zT (by decide),zT (by decide),zT (by decide),aq,aq] at cY
  obtain⟨k1,k2,k3,k4,k5⟩:=cY
  have k2i:(0:Int)<xZ en l[i].type:=by omega
  have k4i:(l[i].clock.length:Int)≤4:=by omega
  have eV:(!port||decide (l[i].clock=[]))=true:=k3
  have hE:∀o∈l[i].clock,AP en o=0:=zd.1 k5
  cases port with
  | false =>
    simp[dL,hi,k1,w9,hn,wY,hs,k2,k2i,k4,k4i,hT]
    refine zM l[i].clock (AP en) (λj (y:PV×Nat)=>[(10,.int .i64 j),(4,y.1)]) (λ_ y=>y.2) (λ_ _=>h) (x.1.2.1,x.2+1) ?_ ?_ ?_ rfl rfl rfl
    ·intro j hj di y ih2
     have fO:=wC j (by omega)
     have gC:=FC hL en l[i].clock[j].t l[i].clock[j].tag (lx.on _ (ai hj)) false []
     unfold AP at di
     rw[yK,zT (by decide),al,aq] at di
     obtain⟨q1,q2,q3⟩:=di
     rw[q3] at gC
     simp[hj,hi,q1,w9,tf q2,hn,wY,gC,hT,fO]
     simpa using ih2 (_,_)
    ·intro j hj di _ y
     exact absurd (hE _ (ai hj)) di
    ·intro _ y
     simp[hw]
     simpa using ih ((_,_,_,_,_),_)
  | true =>
    have jD:l[i].clock=[]:=by simpa using eV
    simp[dL,hi,k1,w9,hn,wY,hs,k2,k2i,k4,k4i,hT,tf jD]
    refine zM l[i].clock (AP en) (λj (y:PV×Nat)=>[(10,.int .i64 j),(4,y.1)]) (λ_ y=>y.2) (λ_ _=>h) (x.1.2.1,x.2+1) ?_ ?_ ?_ rfl rfl rfl
    ·intro j hj di y ih2
     have fO:=wC j (by omega)
     have gC:=FC hL en l[i].clock[j].t l[i].clock[j].tag (lx.on _ (ai hj)) false []
     unfold AP at di
     rw[yK,zT (by decide),al,aq] at di
     obtain⟨q1,q2,q3⟩:=di
     rw[q3] at gC
     simp[hj,hi,q1,w9,tf q2,hn,wY,gC,hT,fO]
     simpa using ih2 (_,_)
    ·intro j hj di _ y
     exact absurd (hE _ (ai hj)) di
    ·intro _ y
     simp[hw]
     simpa using ih ((_,_,_,_,_),_)
 ·intro i dL cY hf x
  have lx:=hd _ (ai dL)
  have dN:=lx.clock
  have hs:=Hu hL en l[i].type lx.type false []
  rw[hf]
  unfold yQ at cY ⊢
  by_cases k1:zu l[i].name=0
  ·by_cases k2:0<xZ en l[i].type
   ·have k2i:(0:Int)<xZ en l[i].type:=by omega
    by_cases k3:port=true∧l[i].clock≠[]
    ·have jQ:¬l[i].clock=[]:=k3.2
     have jD:¬(l[i].clock.length:Int)=0:=by
      intro e; exact k3.2 (bj.1 (by omega))
     rw[k3.1]
     simp[dL,hi,k1,w9,hn,wY,hs,k2,k2i,hT,hF,jQ,jD,need,wx,wy]
    ·by_cases k4:l[i].clock.length≤4
     ·have k4i:(l[i].clock.length:Int)≤4:=by omega
      have eV:(!port||decide (l[i].clock=[]))=true:=by
       cases port with
       | false=>rfl
       | true=>simpa using k3
      have hE:ww (AP en) l[i].clock≠0:=by
       intro e; apply cY
       simp[k1,k2,eV,k4,e]
      have dt:wx (zu l[i].name) (wx (need (decide (0<xZ en l[i].type)) 10) (wx (need (!port||decide (l[i].clock=[])) 11) (wx (need (decide (l[i].clock.length≤4)) 3) (ww (AP en) l[i].clock))))=ww (AP en) l[i].clock:=by
       simp[k1,k2,eV,k4]
      rw[dt]
      cases port with
      | true =>
        have jD:l[i].clock=[]:=by simpa using eV
        rw[jD] at hE; exact absurd rfl hE
      | false=>
      simp[dL,hi,k1,w9,hn,wY,hs,k2,k2i,k4,k4i,hT]
      refine zM l[i].clock (AP en) (λj (y:PV×Nat)=>[(10,.int .i64 j),(4,y.1)]) (λ_ y=>y.2) (λ_ _=>h) (x.1.2.1,x.2+1) ?_ ?_ ?_ rfl rfl rfl
      ·intro j hj di y ih2
       have fO:=wC j (by omega)
       have gC:=FC hL en l[i].clock[j].t l[i].clock[j].tag (lx.on _ (ai hj)) false []
       unfold AP at di
       rw[yK,zT (by decide),al,aq] at di
       obtain⟨q1,q2,q3⟩:=di
       rw[q3] at gC
       simp[hj,hi,q1,w9,tf q2,hn,wY,gC,hT,fO]
       simpa using ih2 (_,_)
      ·intro j hj di ix y
       have gC:=FC hL en l[i].clock[j].t l[i].clock[j].tag (lx.on _ (ai hj)) false []
       rw[ix]
       unfold AP
       by_cases q1:zu l[i].clock[j].name=0
       ·by_cases q2:l[i].clock[j].t=2
        ·simp[hj,hi,q1,w9,tf q2,hF,need,wx,wy]
        ·cases q3:BZ en l[i].clock[j].t l[i].clock[j].tag with
         | true=>exfalso; apply di; simp[AP,q1,q2,q3]
         | false=>rw[q3] at gC; simp[hj,hi,q1,w9,tf q2,hn,wY,gC,hF,need,wx,wy]
       ·simp[hj,hi,zh q1,q1,wx]
      ·intro hz y
       exact absurd hz hE
     ·have k4i:¬(l[i].clock.length:Int)≤4:=by omega
      have jQ:¬l[i].clock=[]:=by intro e; rw[e] at k4; simp at k4
      have gN:port=false:=by
       cases port with
       | false=>rfl
       | true=>exact absurd ⟨rfl,jQ⟩ k3
      rw[gN]
      simp[dL,hi,k1,w9,hn,wY,hs,k2,k2i,k4,k4i,hT,hF,need,wx,wy]
   ·have k2i:¬(0:Int)<xZ en l[i].type:=by omega
    simp[dL,hi,k1,w9,hn,wY,hs,k2,k2i,hF,need,wx,wy]
  ·simp[dL,hi,zh k1,k1,wx]
 ·intro h0 x
  simp[h0,w9]
end
section
variable {L:Nat→Option PFunc} (hL:∀k f,LS k=some f→L k=some f)
include hL
section
variable (en:List Enum) (n:Nat) (a b:Int) (h:List PObj) (hn:h[n]? = some (wY en a b))
include hn
theorem FF (q:Eqn) (hq:QW q):wF L 91 [.ptr n 0,wH q] h=some (wy 2 a b (Aa en q),h):=by
 have hi:=λs=>FD hL en n a b h hn s
 have hr:=λe=>Kw hL en n a b h hn e
 have hT:=Cq hL en n a b h hn
 have hF:=B3 hL en n a b h hn
 obtain⟨h',hx⟩:=Dq hL en q.right hq.right false
 have sa:=hq.left
 refine zg (hL 91 _ rfl) rfl ?_
 unfold Aa
 by_cases h1:q.left=[]
 ·simp[Fdq,h1,hF,need,wx,wy]
 have ky:0<q.left.length:=bU.2 h1
 have fy:(0:Int)<q.left.length:=by omega
 by_cases h2:q.left.length≤64
 ·have kz:(q.left.length:Int)≤64:=by omega
  simp[Fdq,h1,ky,fy,h2,kz,hT]
  refine Kq q.left zu (λi (x:PV)=>[(3,x),(6,.int .i64 i)]) .dead ?_ ?_ ?_ rfl
  ·intro i dL cY x ih
   have hw:=wC i (by omega)
   simp[dL,hw,hi,cY,w9]
   simpa using ih _
  ·intro i dL cY hf x
   simp[dL,hi,zh cY,hf,A9 cY]
  ·intro h0 x
   rw[h0,zw]
   by_cases h3:Aq en q.right=0
   ·rw[h3] at hx
    by_cases h4:q.left.length=1
    ·have qq:(q.left.length:Int)=1:=by omega
     simp[hn,wY,hx,h3,hr,w9,tf h4,tf qq,hT]
    ·have qq:¬(q.left.length:Int)=1:=by omega
     by_cases h5:q.right.kind=10
     ·simp[hn,wY,hx,h3,hr,w9,tf h4,tf qq,tf h5,hT]
     ·simp[hn,wY,hx,h3,hr,w9,tf h4,tf qq,tf h5,hF,need,wy]
   ·simp[hn,wY,hx,hr,zh h3,A9 h3]
 ·have kz:¬(q.left.length:Int)≤64:=by omega
  simp[Fdq,h1,ky,fy,h2,kz,hT,hF,need,wx,wy]
theorem Hv (l:List Trn) (hl:l.length≤1600) (ht:∀t∈l,XW t.cond) (m:Nat) (strong:Bool) (o:Bool):wF L 121 [.ptr n 0,.list o (l.map xe),.int .i64 m,.bool strong] h=some (wy 2 a b (ww (Ds en m strong) l),h):=by
 have hr:=λe=>Kw hL en n a b h hn e
 have hT:=Cq hL en n a b h hn
 have hF:=B3 hL en n a b h hn
 refine zg (hL 121 _ rfl) rfl ?_
 simp[JS]
 refine zM l (Ds en m strong) (λi (x:PV×Nat)=>[(4,x.1),(7,.int .i64 i)]) (λ_ x=>x.2) (λ_ _=>h) (.dead,0) ?_ ?_ ?_ rfl rfl rfl
 ·intro i dL cY x ih
  have hw:=wC i (by omega)
  have oV:=ht _ (ai dL)
  obtain⟨h',hx⟩:=Dq hL en l[i].cond oV false
  obtain⟨h'',hs⟩:=O4 hL l[i].cond oV.ew
  unfold Ds at cY
  rw[yK,yK,zT (by decide),zT (by decide),aq] at cY
  obtain⟨⟨k1,k2⟩,k3,k4⟩:=cY
  rw[k3] at hx
  cases strong with
  | false =>
    simp[dL,hw,k1,k2,hn,wY,hx,hr,w9,hT]
    simpa using ih (_,_)
  | true =>
    have k4:Dp l[i].cond=true:=by simpa using k4
    rw[k4] at hs
    simp[dL,hw,k1,k2,hn,wY,hx,hr,w9,hs,hT]
    simpa using ih (_,_)
 ·intro i dL cY hf x
  have oV:=ht _ (ai dL)
  obtain⟨h',hx⟩:=Dq hL en l[i].cond oV false
  obtain⟨h'',hs⟩:=O4 hL l[i].cond oV.ew
  rw[hf]
  unfold Ds at cY ⊢
  by_cases k1:0≤l[i].to
  ·by_cases k2:l[i].to<m
   ·by_cases k3:Aq en l[i].cond=0
    ·rw[k3] at hx
     cases strong with
     | false=>exfalso; apply cY; simp[k1,k2,k3]
     | true =>
       cases k4:Dp l[i].cond with
       | true=>exfalso; apply cY; simp[k1,k2,k3,k4]
       | false=>rw[k4] at hs; simp[dL,k1,k2,hn,wY,hx,hr,w9,hs,hT,hF,k3,need,wx,wy]
    ·simp[dL,k1,k2,hn,wY,hx,hr,zh k3,hT,need,wx,k3]
   ·simp[dL,k1,k2,hF,need,wx,wy]
  ·simp[dL,k1,hF,need,wx,wy]
 ·intro h0 x
  simp[h0,w9]
theorem O5:∀(d:Nat),d≤3→∀au:zt,au.length≤1600→(∀x∈au,SW x)→wF L 92 [.ptr n 0,wI au,.int .i64 (3 - (d:Int))] h=some (wy 2 a b (B5 en d au),h)
 | 0, _, au, dp, ha => by
   have hF:=B3 hL en n a b h hn
   refine zg (hL 92 _ rfl) rfl ?_
   simp[D5,hF,B5,wy]
 | d + 1, hd, au, dp, ha => by
   have ih:=O5 d (by omega)
   have hi:=λs=>FD hL en n a b h hn s
   have hT:=Cq hL en n a b h hn
   have hF:=B3 hL en n a b h hn
   have sb:(3:Int) - ((d+1:Nat):Int)=2 - (d:Int):=by omega
   rw[sb]
   have cQ:2 - (d:Int)<3:=by omega
   have oW:IntKind.i64.wrap (2 - (d:Int)+1)=3 - (d:Int):=by rw[xD]<;>omega
   refine zg (hL 92 _ rfl) rfl ?_
   simp only[B5]
   by_cases h1:au=[]
   ·simp[D5,cQ,hT,hF,h1,need,wx,wy]
   have ky:0<au.length:=bU.2 h1
   have fy:(0:Int)<au.length:=by omega
   by_cases h2:au.length≤8
   ·have kz:(au.length:Int)≤8:=by omega
    simp[D5,cQ,hT,h1,ky,fy,h2,kz]
    refine zM au (Hw en au.length (B5 en d)) (λi (x:(PV×PV×PV×PV×PV×PV×PV×PV×PV)×Nat)=>[(4,x.1.1),(5,x.1.2.1),(6,x.1.2.2.1),(9,.int .i64 i),(10,x.1.2.2.2.1),(11,x.1.2.2.2.2.1),(12,x.1.2.2.2.2.2.1),(13,x.1.2.2.2.2.2.2.1),(14,x.1.2.2.2.2.2.2.2.1),(15,x.1.2.2.2.2.2.2.2.2)]) (λ_ x=>x.2) (λ_ _=>h) ((.dead,.dead,.dead,.dead,.dead,.dead,.dead,.dead,.dead),1) ?_ ?_ ?_ rfl rfl rfl
    ·intro i dL cY x ih2
     have hw:=wC i (by omega)
     have hs:=ha _ (ai dL)
     have gA:=FE hL en n a b h hn au[i].locals hs.locals hs.ls false false
     have ib:=Hv hL en n a b h hn au[i].unl hs.unl hs.us au.length true false
     have lP:=Hv hL en n a b h hn au[i].til hs.til hs.ts au.length false false
     have em:=hs.eqs
     have oP:=hs.autos
     unfold Hw at cY
     rw[yK,yK,yK,yK,yK,yK,zT (by decide),aq] at cY
     obtain⟨k0,⟨c1,c2,c3,c4,c5⟩,k1,k2,k3,k4,k5⟩:=cY
     rw[k1] at gA; rw[k4] at ib; rw[k5] at lP
     have c1i:(au[i].locals.length:Int)≤256:=by omega
     have c2i:(au[i].eqs.length:Int)≤256:=by omega
     have c3i:(au[i].autos.length:Int)≤8:=by omega
     have c45:(if au[i].unl.length<au[i].til.length then(au[i].til.length:Int) else(au[i].unl.length:Int))≤4:=by split<;>omega
     have e2:=zd.1 k2
     have e3:=zd.1 k3
     simp[dL,hi,k0,w9,c1,c2,c3,c1i,c2i,c3i,c45,hT,gA]
     refine zM au[i].eqs (Aa en) (λj (y:PV×Nat)=>[(5,y.1),(12,.int .i64 j)]) (λ_ y=>y.2) (λ_ _=>h) (x.1.2.1,x.2+1) ?_ ?_ ?_ rfl rfl rfl
     ·intro j hj di y ih3
      have fO:=wC j (by omega)
      have hc:=FF hL en n a b h hn au[i].eqs[j] (hs.es _ (ai hj))
      rw[di] at hc
      simp[hj,fO,hc,w9]
      simpa using ih3 (_,_)
     ·intro j hj di _ y
      exact absurd (e2 _ (ai hj)) di
     ·intro _ y
      simp
      refine zM au[i].autos (B5 en d) (λj (z:PV×Nat)=>[(6,z.1),(15,.int .i64 j)]) (λ_ z=>z.2) (λ_ _=>h) (x.1.2.2.1,y.2) ?_ ?_ ?_ rfl rfl rfl
      ·intro j hj di z ih3
       have fO:=wC j (by omega)
       have hc:=ih au[i].autos[j] (hs.as _ (ai hj)) (hs.ss _ (ai hj))
       rw[di] at hc
       simp[hj,fO,oW,hc,w9]
       simpa using ih3 (_,_)
      ·intro j hj di _ z
       exact absurd (e3 _ (ai hj)) di
      ·intro _ z
       simp[ib,lP,w9,hw]
       simpa using ih2 ((_,_,_,_,_,_,_,_,_),_)
    ·intro i dL cY hf x
     have hs:=ha _ (ai dL)
     have gA:=FE hL en n a b h hn au[i].locals hs.locals hs.ls false false
     have ib:=Hv hL en n a b h hn au[i].unl hs.unl hs.us au.length true false
     have lP:=Hv hL en n a b h hn au[i].til hs.til hs.ts au.length false false
     have em:=hs.eqs
     have oP:=hs.autos
     rw[hf]
     unfold Hw at cY ⊢
     by_cases k0:zu au[i].name=0
     ·rw[k0,zw] at cY ⊢
      by_cases c1:au[i].locals.length≤256
      rotate_left
      ·have c1i:¬(au[i].locals.length:Int)≤256:=by omega
       simp[dL,hi,k0,w9,c1,c1i,hF,need,wx,wy]
      have c1i:(au[i].locals.length:Int)≤256:=by omega
      by_cases c2:au[i].eqs.length≤256
      rotate_left
      ·have c2i:¬(au[i].eqs.length:Int)≤256:=by omega
       simp[dL,hi,k0,w9,c1,c1i,c2,c2i,hF,need,wx,wy]
      have c2i:(au[i].eqs.length:Int)≤256:=by omega
      by_cases c3:au[i].autos.length≤8
      rotate_left
      ·have c3i:¬(au[i].autos.length:Int)≤8:=by omega
       simp[dL,hi,k0,w9,c1,c1i,c2,c2i,c3,c3i,hF,need,wx,wy]
      have c3i:(au[i].autos.length:Int)≤8:=by omega
      by_cases c4:au[i].unl.length≤4∧au[i].til.length≤4
      rotate_left
      ·have c45:¬(if au[i].unl.length<au[i].til.length then(au[i].til.length:Int) else(au[i].unl.length:Int))≤4:=by split<;>omega
       have c4n:¬(au[i].unl.length≤4∧au[i].til.length≤4):=c4
       simp[dL,hi,k0,w9,c1,c1i,c2,c2i,c3,c3i,c45,hF,need,wx,wy,c4n]
      have c45:(if au[i].unl.length<au[i].til.length then(au[i].til.length:Int) else(au[i].unl.length:Int))≤4:=by split<;>omega
      have kA:need (decide (au[i].locals.length≤256∧au[i].eqs.length≤256∧au[i].autos.length≤8∧au[i].unl.length≤4∧au[i].til.length≤4)) 3=0:=by
       rw[zT (by decide),aq]; exact⟨c1,c2,c3,c4⟩
      rw[kA,zw] at cY ⊢
      by_cases k1:ww (yQ en false) au[i].locals=0
      rotate_left
      ·simp[dL,hi,k0,w9,c1,c2,c3,c1i,c2i,c3i,c45,hT,gA,zh k1,A9 k1]
      rw[k1,zw] at cY ⊢
      rw[k1] at gA
      simp[dL,hi,k0,w9,c1,c2,c3,c1i,c2i,c3i,c45,hT,gA]
      refine zM au[i].eqs (Aa en) (λj (y:PV×Nat)=>[(5,y.1),(12,.int .i64 j)]) (λ_ y=>y.2) (λ_ _=>h) (x.1.2.1,x.2+1) ?_ ?_ ?_ rfl rfl rfl
      ·intro j hj di y ih3
       have fO:=wC j (by omega)
       have hc:=FF hL en n a b h hn au[i].eqs[j] (hs.es _ (ai hj))
       rw[di] at hc
       simp[hj,fO,hc,w9]
       simpa using ih3 (_,_)
      ·intro j hj di ix y
       have hc:=FF hL en n a b h hn au[i].eqs[j] (hs.es _ (ai hj))
       rw[ix]
       simp[hj,hc,zh di,A9 di]
      ·intro k2 y
       rw[k2,zw] at cY ⊢
       simp
       refine zM au[i].autos (B5 en d) (λj (z:PV×Nat)=>[(6,z.1),(15,.int .i64 j)]) (λ_ z=>z.2) (λ_ _=>h) (x.1.2.2.1,y.2) ?_ ?_ ?_ rfl rfl rfl
       ·intro j hj di z ih3
        have fO:=wC j (by omega)
        have hc:=ih au[i].autos[j] (hs.as _ (ai hj)) (hs.ss _ (ai hj))
        rw[di] at hc
        simp[hj,fO,oW,hc,w9]
        simpa using ih3 (_,_)
       ·intro j hj di ix z
        have hc:=ih au[i].autos[j] (hs.as _ (ai hj)) (hs.ss _ (ai hj))
        rw[ix]
        simp[hj,oW,hc,zh di,A9 di]
       ·intro k3 z
        rw[k3,zw] at cY ⊢
        by_cases k4:ww (Ds en au.length true) au[i].unl=0
        ·rw[k4,zw] at cY ⊢
         rw[k4] at ib
         simp[ib,lP,w9,zh cY]
        ·simp[ib,zh k4,A9 k4]
     ·simp[dL,hi,zh k0,A9 k0]
    ·intro h0 x
     simp[h0,w9]
   ·have kz:¬(au.length:Int)≤8:=by omega
    simp[D5,cQ,hT,hF,h1,ky,fy,h2,kz,need,wx,wy]
end
end
end PI.Sc
set_option maxRecDepth 100000
set_option linter.unusedSimpArgs false
set_option linter.unusedVariables false
namespace PI
section
variable {L:Nat→Option PFunc} {V l:List PV} {g:Nat} {h:List PObj}
def Em (L:Nat→Option PFunc) (f:PFunc) (P:PV×List PObj→Prop) (e:PExit) (st:St):Prop:=∃v h',BA L f (.val v,h') e st∧P (v,h')
@[simp] theorem b6a (f:PFunc) (P:PV×List PObj→Prop):Em L f P .normal ⟨V,l,g,h⟩=∃v,xa ⟨V,l,g,h⟩ f.results=some v∧P (v,wM V f.results h):=by
 simp only[Em,O6,eq_iff_iff]
 constructor
 ·rintro⟨v,h',⟨v',h1,h2⟩,h3⟩
  simp only[ac,Out.val.injEq] at h2
  obtain⟨rfl,rfl⟩:=h2
  exact⟨v,h1,h3⟩
 ·rintro⟨v,h1,h2⟩; exact⟨v,_,⟨v,h1,rfl⟩,h2⟩
@[simp] theorem c87 (f:PFunc) (P:PV×List PObj→Prop):Em L f P .ret ⟨V,l,g,h⟩=∃v,xa ⟨V,l,g,h⟩ f.results=some v∧P (v,wM V f.results h):=b6a (L:=L) f P
@[simp] theorem c5u (f:PFunc) (P:PV×List PObj→Prop) (kd:Nat) (cs:List PV) (p:Option PV):Em L f P (.after kd cs p) ⟨V,l,g,h⟩=(f.code.NR=true∧∃h1 x,yp L kd (p.getD .nilIface::cs) h=some h1∧xa ⟨V,l,g,h1⟩ f.results=some x∧P (x,wM V f.results h1)):=by
 simp only[Em,b9Q,eq_iff_iff]
 constructor
 ·rintro⟨v,h',⟨h0,h1,x,h2,h3,h4⟩,h5⟩
  simp only[ac,Out.val.injEq] at h4
  obtain⟨rfl,rfl⟩:=h4
  exact⟨h0,h1,v,h2,h3,h5⟩
 ·rintro⟨h0,h1,x,h2,h3,h5⟩; exact⟨x,_,⟨h0,h1,x,h2,h3,rfl⟩,h5⟩
theorem MD {k:Nat} {f:PFunc} {args:List PV} {hp:List PObj} {P:PV×List PObj→Prop} (hf:L k=some f) (hl:args.length=f.params)
  (hw:wpL L f.code ⟨args.map dem++List.replicate (f.nv - f.params) .dead,[],0,hp⟩ (Em L f P)) (hs:f.split=false:=by rfl) (fw:f.prim=none:=by rfl) (hr:f.code.isRound=false:=by rfl):∃r,wn L k args hp=some r∧P r:=by
 rw[Bm] at hw
 obtain⟨e,st,h1,v,h',h2,h3⟩:=hw
 exact⟨(v,h'),c1u hf hl (Bm.2 ⟨e,st,h1,h2⟩) hs fw hr,h3⟩
def Da (L:Nat→Option PFunc) (f:PFunc) (P:Out×List PObj→Prop) (e:PExit) (st:St):Prop:=∃r,BA L f r e st∧P r
@[simp] theorem b7s (f:PFunc) (P:Out×List PObj→Prop):Da L f P .normal ⟨V,l,g,h⟩=∃v,xa ⟨V,l,g,h⟩ f.results=some v∧P (.val v,wM V f.results h):=by
 simp only[Da,O6,eq_iff_iff]
 constructor
 ·rintro⟨r,⟨v,h1,rfl⟩,h2⟩; exact⟨v,h1,h2⟩
 ·rintro⟨v,h1,h2⟩; exact⟨_,⟨v,h1,rfl⟩,h2⟩
@[simp] theorem d0V (f:PFunc) (P:Out×List PObj→Prop):Da L f P .ret ⟨V,l,g,h⟩=∃v,xa ⟨V,l,g,h⟩ f.results=some v∧P (.val v,wM V f.results h):=b7s (L:=L) f P
@[simp] theorem c88 (f:PFunc) (P:Out×List PObj→Prop) (v:PV):Da L f P (.boom v) ⟨V,l,g,h⟩=P (.boom v,h):=by
 simp only[Da,c1t,eq_iff_iff]
 exact⟨fun⟨r,h1,h2⟩=>h1▸h2,λh2=>⟨_,rfl,h2⟩⟩
theorem BR {k:Nat} {f:PFunc} {args:List PV} {hp:List PObj} {P:Out×List PObj→Prop} (hf:L k=some f) (hl:args.length=f.params)
  (hw:wpL L f.code ⟨args.map dem++List.replicate (f.nv - f.params) .dead,[],0,hp⟩ (Da L f P)) (hs:f.split=false:=by rfl) (fw:f.prim=none:=by rfl) (hr:f.code.isRound=false:=by rfl):∃r,wF L k args hp=some r∧P r:=by
 rw[Bm] at hw
 obtain⟨e,st,h1,r,h2,h3⟩:=hw
 exact⟨r,zg hf hl (Bm.2 ⟨e,st,h1,h2⟩) hs fw hr,h3⟩
end
end PI
namespace PI.Sc
open Go (IntKind BinOp UnOp)
open Short
def xQ (t:Nat):Option Bad→Out
 | none => .val (.tuple [])
 | some b => .boom (xC t b.node b.eq b.err)
section
variable {L:Nat→Option PFunc} (hL:∀k f,LS k=some f→L k=some f)
include hL
theorem O7 (en:List Enum) (n:Nat) (a b:Int) (h:List PObj) (hn:h[n]? = some (wY en a b)) (i:Nat) (nd:Node) (gn:NW nd):∃k:Int,wF L 51 [.ptr n 0,.int .i64 i,wA nd] h=some (xQ 2 (yT en nd i),h.set n (wY en i k)):=by
 suffices H:∃r,wF L 51 [.ptr n 0,.int .i64 i,wA nd] h=some r∧∃k:Int,r=(xQ 2 (yT en nd i),h.set n (wY en i k)) by
  obtain⟨r,h1,k,rfl⟩:=H
  exact⟨k,h1⟩
 refine BR (hL 51 _ rfl) rfl ?_
 have cQ:n<h.length:=(aj.1 hn).1
 have eB:∀k:Int,PObj.cells [.list false (en.map wE),.int .i64 i,.int .i64 k]=wY en i k:=λ_=>rfl
 have iu:∀k:Int,(h.set n (wY en i k))[n]? = some (wY en i k):=λk=>by simp[cQ]
 have hi:=λs=>FD hL en n i (-1) (h.set n (wY en i (-1))) (iu _) s
 have hr:=λe=>Kw hL en n i (-1) (h.set n (wY en i (-1))) (iu _) e
 have hT:=Cq hL en n i (-1) (h.set n (wY en i (-1))) (iu _)
 have hF:=B3 hL en n i (-1) (h.set n (wY en i (-1))) (iu _)
 have oX:=FE hL en n i (-1) (h.set n (wY en i (-1))) (iu _) nd.ins gn.ins gn.is true false
 have qt:=FE hL en n i (-1) (h.set n (wY en i (-1))) (iu _) nd.outs gn.outs gn.os true false
 have jc:=FE hL en n i (-1) (h.set n (wY en i (-1))) (iu _) nd.locals gn.locals gn.ls false false
 have iz:=λ(au:zt) (h1:au.length≤1600) (h2:∀x∈au,SW x)=>O5 hL en n i (-1) (h.set n (wY en i (-1))) (iu _) 3 (by omega) au h1 h2
 have lX:zB en nd≠0→yT en nd i=some ⟨i,-1,zB en nd⟩:=λhh=>by unfold yT; rw[ah hh]
 obtain⟨RES,ek⟩:∃RES,RES=yT en nd i:=⟨_,rfl⟩
 rw[← ek]
 have eJ:∀e:Int,zB en nd=e→e≠0→RES=some ⟨i,-1,e⟩:=λe h1 h2=>by rw[ek,lX (by rw[h1]; exact h2),h1]
 simp[Jq,hn,wY,wS]
 rw[eB]
 by_cases k0:zu nd.name=0
 rotate_left
 ·have:=eJ (zu nd.name) (by unfold zB; exact A9 k0) k0
  rw[this]
  simp[hi,zh k0,xQ]
  exact⟨-1,rfl⟩
 by_cases c12:nd.ins.length≤64∧nd.outs.length≤64
 rotate_left
 ·have hc:¬(if nd.ins.length<nd.outs.length then(nd.outs.length:Int) else(nd.ins.length:Int))≤64:=by split<;>omega
  have := eJ 3 (by unfold zB; rw [k0, zw]; have : ¬ (nd.ins.length ≤ 64 ∧ nd.outs.length ≤ 64 ∧ nd.locals.length ≤ 256 ∧ nd.eqs.length ≤ 256 ∧ nd.autos.length ≤ 8 ∧ nd.assume.length ≤ 8 ∧ nd.ensure.length ≤ 8) := by omega
                   simp only[this,decide_false,FG]; rfl) (by decide)
  rw[this]
  simp[hi,k0,w9,hc,hF,xQ]
  exact⟨-1,rfl⟩
 have m12:(if nd.ins.length<nd.outs.length then(nd.outs.length:Int) else(nd.ins.length:Int))≤64:=by split<;>omega
 by_cases c3:nd.locals.length≤256
 rotate_left
 ·have c3i:¬(nd.locals.length:Int)≤256:=by omega
  have := eJ 3 (by unfold zB; rw [k0, zw]; have : ¬ (nd.ins.length ≤ 64 ∧ nd.outs.length ≤ 64 ∧ nd.locals.length ≤ 256 ∧ nd.eqs.length ≤ 256 ∧ nd.autos.length ≤ 8 ∧ nd.assume.length ≤ 8 ∧ nd.ensure.length ≤ 8) := by omega
                   simp only[this,decide_false,FG]; rfl) (by decide)
  rw[this]
  simp[hi,k0,w9,m12,c3,c3i,hF,xQ]
  exact⟨-1,rfl⟩
 have c3i:(nd.locals.length:Int)≤256:=by omega
 by_cases c4:nd.eqs.length≤256
 rotate_left
 ·have c4i:¬(nd.eqs.length:Int)≤256:=by omega
  have := eJ 3 (by unfold zB; rw [k0, zw]; have : ¬ (nd.ins.length ≤ 64 ∧ nd.outs.length ≤ 64 ∧ nd.locals.length ≤ 256 ∧ nd.eqs.length ≤ 256 ∧ nd.autos.length ≤ 8 ∧ nd.assume.length ≤ 8 ∧ nd.ensure.length ≤ 8) := by omega
                   simp only[this,decide_false,FG]; rfl) (by decide)
  rw[this]
  simp[hi,k0,w9,m12,c3,c3i,c4,c4i,hF,xQ]
  exact⟨-1,rfl⟩
 have c4i:(nd.eqs.length:Int)≤256:=by omega
 by_cases c5:nd.autos.length≤8
 rotate_left
 ·have c5i:¬(nd.autos.length:Int)≤8:=by omega
  have := eJ 3 (by unfold zB; rw [k0, zw]; have : ¬ (nd.ins.length ≤ 64 ∧ nd.outs.length ≤ 64 ∧ nd.locals.length ≤ 256 ∧ nd.eqs.length ≤ 256 ∧ nd.autos.length ≤ 8 ∧ nd.assume.length ≤ 8 ∧ nd.ensure.length ≤ 8) := by omega
                   simp only[this,decide_false,FG]; rfl) (by decide)
  rw[this]
  simp[hi,k0,w9,m12,c3,c3i,c4,c4i,c5,c5i,hF,xQ]
  exact⟨-1,rfl⟩
 have c5i:(nd.autos.length:Int)≤8:=by omega
 by_cases c67:nd.assume.length≤8∧nd.ensure.length≤8
 rotate_left
 ·have m67:¬(if nd.assume.length<nd.ensure.length then(nd.ensure.length:Int) else(nd.assume.length:Int))≤8:=by split<;>omega
  have := eJ 3 (by unfold zB; rw [k0, zw]; have : ¬ (nd.ins.length ≤ 64 ∧ nd.outs.length ≤ 64 ∧ nd.locals.length ≤ 256 ∧ nd.eqs.length ≤ 256 ∧ nd.autos.length ≤ 8 ∧ nd.assume.length ≤ 8 ∧ nd.ensure.length ≤ 8) := by omega
                   simp only[this,decide_false,FG]; rfl) (by decide)
  rw[this]
  simp[hi,k0,w9,m12,c3,c3i,c4,c4i,c5,c5i,m67,hF,xQ]
  exact⟨-1,rfl⟩
 have m67:(if nd.assume.length<nd.ensure.length then(nd.ensure.length:Int) else(nd.assume.length:Int))≤8:=by split<;>omega
 have kA:need (decide (nd.ins.length≤64∧nd.outs.length≤64∧nd.locals.length≤256∧nd.eqs.length≤256∧nd.autos.length≤8∧nd.assume.length≤8∧nd.ensure.length≤8)) 3=0:=by
  rw[zT (by decide),aq]; omega
 have hH:zB en nd=wx (need (decide (nd.outs≠[])) 8) (wx (ww (yQ en true) nd.ins) (wx (ww (yQ en true) nd.outs) (ww (yQ en false) nd.locals))):=by
  unfold zB; rw[k0,zw,kA,zw]
 by_cases o1:nd.outs=[]
 ·have o1p:¬0<nd.outs.length:=by simp[o1]
  have o1q:¬(0:Int)<nd.outs.length:=by omega
  have:=eJ 8 (by rw[hH]; simp[o1,wx]) (by decide)
  rw[this]
  simp[hi,k0,w9,m12,c3,c3i,c4,c4i,c5,c5i,m67,hT,tf o1,o1p,o1q,hF,xQ]
  exact⟨-1,rfl⟩
 have o1n:0<nd.outs.length:=bU.2 o1
 have o1i:(0:Int)<nd.outs.length:=by omega
 have lg:zB en nd=wx (ww (yQ en true) nd.ins) (wx (ww (yQ en true) nd.outs) (ww (yQ en false) nd.locals)):=by
  rw[hH]; simp[o1]
 by_cases z1:ww (yQ en true) nd.ins=0
 rotate_left
 ·have:=eJ _ (by rw[lg]; exact A9 z1) z1
  rw[this]
  simp[hi,k0,w9,m12,c3,c3i,c4,c4i,c5,c5i,m67,hT,o1,o1n,o1i,oX,zh z1,xQ]
  exact⟨-1,rfl⟩
 rw[z1,zw] at lg
 rw[z1] at oX
 by_cases z2:ww (yQ en true) nd.outs=0
 rotate_left
 ·have:=eJ _ (by rw[lg]; exact A9 z2) z2
  rw[this]
  simp[hi,k0,w9,m12,c3,c3i,c4,c4i,c5,c5i,m67,hT,o1,o1n,o1i,oX,qt,zh z2,xQ]
  exact⟨-1,rfl⟩
 rw[z2,zw] at lg
 rw[z2] at qt
 by_cases z3:ww (yQ en false) nd.locals=0
 rotate_left
 ·have:=eJ _ lg z3
  rw[this]
  simp[hi,k0,w9,m12,c3,c3i,c4,c4i,c5,c5i,m67,hT,o1,o1n,o1i,oX,qt,jc,zh z3,xQ]
  exact⟨-1,rfl⟩
 rw[z3] at jc lg
 have vl:=gn.eqs
 have fR:RES=match Ap (Aa en) nd.eqs 0 with
  | some (k,e)=>some ⟨i,k,e⟩
  | none=>if AA en nd≠0 then some ⟨i,-1,AA en nd⟩ else none:=by
  rw[ek]; unfold yT; rw[af (by simpa using lg)]; rfl
 clear eJ lX ek
 simp[hi,k0,w9,m12,c3,c3i,c4,c4i,c5,c5i,m67,hT,o1,o1n,o1i,oX,qt,jc]
 refine Kx nd.eqs (λ_ q=>decide (Aa en q=0)) (λj (x:(PV×PV)×Nat)=>[(4,x.1.1),(5,x.1.2),(11,.int .i64 j)]) (λ_ x=>x.2) (λj _=>h.set n (wY en i ((j:Int) - 1))) ((.dead,.dead),1) ?_ ?_ ?_ rfl rfl rfl
 ·intro j hj cY x ih
  have hw:=wC j (by omega)
  rw[aq] at cY
  have hc:=FF hL en n i j (h.set n (wY en i j)) (iu _) nd.eqs[j] (gn.es _ (ai hj))
  rw[cY] at hc
  have ih:=λy=>ih y
  rw[show ((j+1:Nat):Int) - 1=j by omega] at ih
  have ly:=eB j
  simp[hj,cQ,wY,yk]
  simp only[ly]
  simp[hc,w9,hw]
  simpa using ih ((_,_),_)
 ·intro j hj cY fB x
  rw[bN] at cY
  have hc:=FF hL en n i j (h.set n (wY en i j)) (iu _) nd.eqs[j] (gn.es _ (ai hj))
  have nF:=O8 (f:=Aa en) (j:=0) hj cY (λk hk h1=>by have:=fB k hk h1; simpa using this)
  rw[nF,aR] at fR
  simp only at fR
  rw[fR]
  have ly:=eB j
  simp[hj,cQ,wY,yk]
  simp only[ly]
  simp[hc,zh cY,xQ]
  exact⟨j,rfl⟩
 ·intro dm x
  have nF:Ap (Aa en) nd.eqs 0=none:=Ho.2 (λq hq=>by obtain⟨k,hk,rfl⟩:=bK.1 hq; simpa using dm k hk)
  rw[nF] at fR
  simp only at fR
  have ly:=eB (-1)
  simp[cQ,wY,yk]
  simp only[ly]
  have las:=gn.assume
  have lgs:=gn.ensure
  refine zM nd.autos (B5 en 3) (λj (y:PV×Nat)=>[(6,y.1),(14,.int .i64 j)]) (λ_ y=>y.2) (λ_ _=>h.set n (wY en i (-1))) (.dead,x.2) ?_ ?_ ?_ rfl rfl rfl
  ·intro j hj cY y ih
   have hw:=wC j (by have:=gn.autos.len; omega)
   have hc:=iz nd.autos[j] (gn.autos.as _ (ai hj)) (gn.autos.ss _ (ai hj))
   rw[cY] at hc
   simp at hc
   simp[hj,hc,w9,hw]
   simpa using ih (_,_)
  ·intro j hj cY hf y
   have hc:=iz nd.autos[j] (gn.autos.as _ (ai hj)) (gn.autos.ss _ (ai hj))
   have ht:AA en nd=B5 en 3 nd.autos[j]:=by unfold AA; rw[hf]; exact A9 cY
   rw[ht,ah cY] at fR
   rw[fR]
   simp at hc
   simp[hj,hc,zh cY,xQ]
   exact⟨-1,rfl⟩
  ·intro e1 y
   simp
   refine zM nd.assume (Aq en) (λj (y:PV×Nat)=>[(7,y.1),(17,.int .i64 j)]) (λ_ y=>y.2) (λ_ _=>h.set n (wY en i (-1))) (.dead,y.2) ?_ ?_ ?_ rfl rfl rfl
   ·intro j hj cY z ih
    have hw:=wC j (by omega)
    obtain⟨h',hx⟩:=Dq hL en nd.assume[j] (gn.as _ (ai hj)) false
    rw[cY] at hx
    have em:wz 1 false [PV.list false (en.map wE),.int .i64 i,.int .i64 (-1)] 0=some (.list false (en.map wE)):=rfl
    simp[hj,cQ,hw]
    simp only[wY]
    simp[hx]
    simp only[ly]
    simp[hr,w9,hw]
    simpa using ih (_,_)
   ·intro j hj cY hf z
    obtain⟨h',hx⟩:=Dq hL en nd.assume[j] (gn.as _ (ai hj)) false
    have ht:AA en nd=Aq en nd.assume[j]:=by unfold AA; rw[e1,zw,hf]; exact A9 cY
    rw[ht,ah cY] at fR
    rw[fR]
    simp[hj,cQ]
    simp only[wY]
    simp[hx]
    simp only[ly]
    simp[hr,zh cY,xQ]
    exact⟨-1,rfl⟩
   ·intro e2 z
    simp
    refine zM nd.ensure (Aq en) (λj (y:PV×Nat)=>[(8,y.1),(20,.int .i64 j)]) (λ_ y=>y.2) (λ_ _=>h.set n (wY en i (-1))) (.dead,z.2) ?_ ?_ ?_ rfl rfl rfl
    ·intro j hj cY u ih
     have hw:=wC j (by omega)
     obtain⟨h',hx⟩:=Dq hL en nd.ensure[j] (gn.gs _ (ai hj)) false
     rw[cY] at hx
     simp[hj,cQ,hw]
     simp only[wY]
     simp[hx]
     simp only[ly]
     simp[hr,w9,hw]
     simpa using ih (_,_)
    ·intro j hj cY hf u
     obtain⟨h',hx⟩:=Dq hL en nd.ensure[j] (gn.gs _ (ai hj)) false
     have ht:AA en nd=Aq en nd.ensure[j]:=by unfold AA; rw[e1,zw,e2,zw,hf]
     rw[ht,ah cY] at fR
     rw[fR]
     simp[hj,cQ]
     simp only[wY]
     simp[hx]
     simp only[ly]
     simp[hr,zh cY,xQ]
     exact⟨-1,rfl⟩
    ·intro e3 u
     have ht:AA en nd=0:=by unfold AA; rw[e1,e2,e3]; rfl
     rw[ht] at fR
     simp only[ne_eq,bi,if_false] at fR
     rw[fR]
     simp[xQ]
     exact⟨-1,rfl⟩
theorem rec48 (w1 w2 c a b e:Int) (o:PObj):yp L 48 [xC 2 a b e,.ptr 0 0,.ptr 1 0] [.cells [.int .i64 w1,.int .i64 w2],.cells [.int .i64 c],o]=some [.cells [.int .i64 a,.int .i64 b],.cells [.int .i64 e],o]:=by
 unfold yp
 rw[hL 48 _ rfl]
 simp[Jp,AH,xC]
theorem c89 (w1 w2 c:Int) (o:PObj):yp L 48 [.nilIface,.ptr 0 0,.ptr 1 0] [.cells [.int .i64 w1,.int .i64 w2],.cells [.int .i64 c],o]=some [.cells [.int .i64 w1,.int .i64 w2],.cells [.int .i64 c],o]:=by
 unfold yp
 rw[hL 48 _ rfl]
 simp[Jp,AH]
theorem c2G (p:Prog) (hp:PW p):∃h',wn L 23 [xd p] []=some (zP (zQ (zV p)),h'):=by
 suffices H:∃r,wn L 23 [xd p] []=some r∧r.1=zP (zQ (zV p)) by
  obtain⟨⟨v,h'⟩,h1,h2⟩:=H
  exact⟨h',by rw[h1]; simp only at h2; rw[h2]⟩
 refine MD (hL 23 _ rfl) rfl ?_
 obtain⟨H,hH⟩:∃H:PObj→List PObj,∀o,H o=[.cells [.int .i64 0,.int .i64 0],.cells [.int .i64 0],o]:=⟨_,λ_=>rfl⟩
 have iu:∀o,(H o)[2]? = some o:=λo=>by rw[hH]; rfl
 have hT:=Cq hL p.enums 2 (-1) (-1) [.cells [.int .i64 0,.int .i64 0],.cells [.int .i64 0],wY p.enums (-1) (-1)] rfl
 have hF:=B3 hL p.enums 2 (-1) (-1) [.cells [.int .i64 0,.int .i64 0],.cells [.int .i64 0],wY p.enums (-1) (-1)] rfl
 have lk:=c5s hL p.enums 2 (-1) (-1) [.cells [.int .i64 0,.int .i64 0],.cells [.int .i64 0],wY p.enums (-1) (-1)] rfl
 have eB:PObj.cells [PV.list false (p.enums.map wE),.int .i64 (-1),.int .i64 (-1)]=wY p.enums (-1) (-1):=rfl
 have l1:=hp.enums
 have l2:=hp.nodes
 have dR:=rec48 hL 0 0 0
 have oY:=c89 hL 0 0 0
 simp[Jl]
 rw[MF (cs:=[.ptr 0 0,.ptr 1 0]) _ _ _ rfl (by simp)]
 unfold zV
 by_cases c1:p.enums.length≤24
 rotate_left
 ·have c1i:¬(p.enums.length:Int)≤24:=by omega
  simp[eB,c1,c1i,hF,dR,zQ,zP,wz]
  rfl
 have c1i:(p.enums.length:Int)≤24:=by omega
 by_cases c2:p.nodes.length≤96
 rotate_left
 ·have c2i:¬(p.nodes.length:Int)≤96:=by omega
  simp[eB,c1,c1i,c2,c2i,hF,dR,zQ,zP,wz]
  rfl
 have c2i:(p.nodes.length:Int)≤96:=by omega
 rw[af (by simp[c1,c2])]
 obtain⟨RES,ek⟩:∃RES,RES=(if ww Dr p.enums≠0 then some ⟨-1,-1,ww Dr p.enums⟩ else z8 p.enums p.nodes 0):=⟨_,rfl⟩
 rw[← ek]
 simp[eB,c1,c1i,c2,c2i,hT]
 refine zM p.enums Dr (λi (x:PV×Nat)=>[(5,x.1),(11,.int .i64 i)]) (λ_ x=>x.2) (λ_ _=>[.cells [.int .i64 0,.int .i64 0],.cells [.int .i64 0],wY p.enums (-1) (-1)]) (.dead,1) ?_ ?_ ?_ rfl rfl rfl
 ·intro i hi cY x ih
  have hw:=wC i (by omega)
  have hc:=lk p.enums[i] (hp.tags _ (ai hi))
  rw[cY] at hc
  simp[hi,hw,hc,w9]
  simpa using ih (_,_)
 ·intro i hi cY hf x
  have hc:=lk p.enums[i] (hp.tags _ (ai hi))
  rw[hf,ah cY] at ek
  subst ek
  simp[hi,hc,zh cY,dR,zQ,zP,wz]
  rfl
 ·intro e1 x
  rw[e1,af (by simp)] at ek
  simp
  refine Kx p.nodes (λi nd=>(yT p.enums nd i).isNone) (λi (y:((PV×PV)×Nat)×Int×Int)=>[(6,y.1.1.1),(7,y.1.1.2),(14,.int .i64 i)]) (λ_ y=>y.1.2) (λ_ y=>[.cells [.int .i64 0,.int .i64 0],.cells [.int .i64 0],wY p.enums y.2.1 y.2.2]) (((.dead,.dead),x.2),-1,-1) ?_ ?_ ?_ rfl rfl rfl
  ·intro i hi cY y ih
   have hw:=wC i (by omega)
   obtain⟨k,hc⟩:=O7 hL p.enums 2 y.2.1 y.2.2 [.cells [.int .i64 0,.int .i64 0],.cells [.int .i64 0],wY p.enums y.2.1 y.2.2] rfl i p.nodes[i] (hp.ns _ (ai hi))
   rw[Option.isNone_iff_eq_none] at cY
   rw[cY] at hc
   simp[xQ] at hc
   simp[hi,hw,hc]
   simpa using ih (((_,_),_),i,k)
  ·intro i hi cY fB y
   obtain⟨k,hc⟩:=O7 hL p.enums 2 y.2.1 y.2.2 [.cells [.int .i64 0,.int .i64 0],.cells [.int .i64 0],wY p.enums y.2.1 y.2.2] rfl i p.nodes[i] (hp.ns _ (ai hi))
   obtain⟨b,hb⟩:∃b,yT p.enums p.nodes[i] i=some b:=by
    cases hx:yT p.enums p.nodes[i] i with
    | none=>rw[hx] at cY; simp at cY
    | some b=>exact⟨b,rfl⟩
   have dt:z8 p.enums p.nodes 0=some b:=O9 hi (by rw[aR]; exact hb) (λk hk h1=>by have:=fB k hk h1; rw[Option.isNone_iff_eq_none] at this; rw[aR]; exact this)
   rw[hb] at hc
   rw[dt] at ek
   subst ek
   simp[xQ] at hc
   simp[hi,hc,dR,zQ,zP,wz]
   rfl
  ·intro dm y
   have dt:z8 p.enums p.nodes 0=none:=Pa (λk hk=>by have:=dm k hk; rw[Option.isNone_iff_eq_none] at this; rw[aR]; exact this)
   rw[dt] at ek
   subst ek
   simp[wS,oY,zQ,DZ,zP,wz]
   rfl
end
end PI.Sc
set_option maxRecDepth 100000
set_option linter.unusedSimpArgs false
set_option linter.unusedVariables false
namespace PI.Sc
open Go (IntKind BinOp UnOp)
open Short
def zo (k:Int×Str):PV := .agg [.int .i64 k.1,.str k.2]
def FH (x:(Int×Str)×Int):PV×PV:=(zo x.1,.int .i64 x.2)
abbrev xK:=List ((Int×Str)×Int)
def yJ (l:xK):List (Int×Str):=l.map (·.1)
def wD (l:xK):PObj := .map (l.map FH)
def wB (en:List Enum) (ns:List Node) (a b:Int):PObj := .cells [.list false (en.map wE),.list false (ns.map wA),.int .i64 a,.int .i64 b,.map (some 2)]
def yu (k:Int×Str):xK→Option Int
 | []=>none
 | x::l=>if k=x.1 then some x.2 else yu k l
theorem Db {k:Int×Str}:∀{l:xK},yu k l=none↔k∉yJ l
 | []=>by simp[yu,yJ]
 | x :: l => by
   have:=Db (k:=k) (l:=l)
   by_cases h:k=x.1<;>simp[yu,yJ,h] at this ⊢<;>exact this
theorem c9b (a b:Int×Str):peq true [.i,.s] (zo a) (zo b)=some (decide (a=b)):=by
 obtain⟨a1,a2⟩:=a
 obtain⟨b1,b2⟩:=b
 simp only[zo,peq,if_true,zD,Ac,aw,aA,aa,ci,ac]
 rw[aI]; simp
theorem FJ (k:Int×Str):∀(l:xK) (i:Nat),∃r,xN true [.i,.s] (zo k) (l.map FH) i=some r∧r.map (·.2)=(yu k l).map (PV.int .i64)
 | [],i=>⟨none,by simp[xN,zo],rfl⟩
 | x :: l, i => by
   have he:peq true [.i,.s] (zo k) (FH x).1=some (decide (k=x.1)):=c9b k x.1
   by_cases hx:k=x.1
   ·subst hx
    refine⟨some (i,.int .i64 x.2),?_,by simp[yu]⟩
    simp only[aC,xN,he,aw,decide_true,if_true]
    rfl
   ·obtain⟨r,h1,h2⟩:=FJ k l (i+1)
    refine⟨r,?_,by simp[yu,hx,h2]⟩
    simp only[aC,xN,he,aw,hx,decide_false,aH,if_false,h1]
def bmE (l:List Str):List (PV×PV):=l.map λs=>(.str s,.bool true)
def Av (l:List Str) (x:Str):List Str:=if x∈l then l else l++[x]
theorem E3 {l:List Str} {x y:Str}:y∈Av l x↔y∈l∨y=x:=by
 unfold Av; split
 ·rename_i h
  exact⟨.inl,λhh=>hh.elim id λe=>e▸h⟩
 ·simp
theorem Pb (x:Str):∀(l:List Str) (i:Nat),(x∉l→xN false [.s] (.str x) (bmE l) i=some none)∧(x∈l→∃j,xN false [.s] (.str x) (bmE l) i=some (some (i+j,.bool true))∧l[j]? = some x)
 | [],i=>⟨λ_=>rfl,λh=>by simp at h⟩
 | y :: l, i => by
   have he:peq false [.s] (.str x) (.str y)=some (x==y):=rfl
   obtain⟨h1,h2⟩:=Pb x l (i+1)
   constructor
   ·intro h
    simp only[ay,not_or] at h
    have hb:(x==y)=false:=by simpa using h.1
    simp only[bmE,aC,xN,he,aw,hb,aH,if_false]
    exact h1 h.2
   ·intro h
    by_cases hx:x=y
    ·subst hx
     exact⟨0,by simp[bmE,xN,he],rfl⟩
    ·have hb:(x==y)=false:=by simpa using hx
     obtain⟨j,h3,h4⟩:=h2 (by simpa[hx] using h)
     refine⟨j+1,?_,by simpa using h4⟩
     simp only[bmE,aC,xN,he,aw,hb,aH,if_false]
     rw[show i+(j+1)=i+1+j by omega]
     exact h3
theorem Au (x:Str) (l:List Str):∃r,xN false [.s] (.str x) (bmE l) 0=some r∧r.map (·.2)=(if x∈l then some (PV.bool true) else none)∧Fs (bmE l) (.str x) (.bool true) r=bmE (Av l x):=by
 obtain⟨h1,h2⟩:=Pb x l 0
 by_cases h:x∈l
 ·obtain⟨j,h3,h4⟩:=h2 h
  refine⟨_,h3,by simp[h],?_⟩
  obtain⟨hj,hx⟩:=aj.1 h4
  simp only[b6m,Av,h,if_true,aR]
  have:(bmE l)[j]'(by simpa[bmE] using hj)=(.str x,.bool true):=by simp[bmE,hx]
  rw[← this,List.set_getElem_self]
 ·exact⟨none,h1 h,by simp[h],by simp[Av,h,bmE]⟩
structure Fr where
 O:List Str
 D:List Str
 I:List Str
 df:List Str
def Kp (b:Nat) (h h':List PObj):Prop:=h.length≤h'.length∧∀n,n<b→h'[n]? = h[n]?
theorem Kp.refl (b:Nat) (h:List PObj):Kp b h h:=⟨ao _,λ_ _=>rfl⟩
theorem Kp.trans {b:Nat} {h h' h'':List PObj} (h1:Kp b h h') (h2:Kp b h' h''):Kp b h h'':=⟨aT h1.1 h2.1,λn hn=>(h2.2 n hn).trans (h1.2 n hn)⟩
theorem Kp.le {b b':Nat} {h h':List PObj} (h1:Kp b h h') (hb:b'≤b):Kp b' h h':=⟨h1.1,λn hn=>h1.2 n (by omega)⟩
theorem Kp.app {b:Nat} {h e:List PObj} (hb:b≤h.length):Kp b h (h++e):=⟨by simp,λn hn=>by rw[am (by omega)]⟩
theorem Kp.set {b n:Nat} {h:List PObj} {o:PObj} (hb:b≤n):Kp b h (h.set n o):=⟨by simp,λk hk=>by rw[an (by omega)]⟩
def Pc (h:List PObj) (b' b:Nat) (dv:PV) (df:List Str):Prop:=(dv = .list true []∧df=[])∨∃k,b'≤k∧k<b∧dv = .rowp k 1 false df.length∧h[k]? = some (.cells (df.map PV.str))
def Holds (h:List PObj):Nat→PV→List Fr→Prop
 | b,v,[]=>v = .nilptr
 | b, v, f :: fs => ∃ (b' n o d : Nat) (i dv up : PV), v = .ptr n 0 ∧ b' ≤ n ∧ b' ≤ o ∧ b' ≤ d ∧ n < b ∧ o < b ∧ d < b ∧ n ≠ o ∧ n ≠ d ∧ o ≠ d ∧ 4 ≤ b' ∧ h[n]? = some (.cells [up, .map (some o), .map (some d), i, dv]) ∧ h[o]? = some (.map (bmE f.O)) ∧ h[d]? = some (.map (bmE f.D)) ∧
   ((i = .map none∧f.I=[])∨∃m,i = .map (some m)∧b'≤m∧m<b∧m≠n∧m≠o∧m≠d∧h[m]? = some (.map (bmE f.I)))∧Pc h b' b dv f.df∧(∀k s a len,dv = .rowp k s a len→k≠n∧k≠o∧k≠d∧i≠.map (some k))∧Holds h b' up fs
theorem Holds.keep {h h':List PObj}:∀{fs:List Fr} {b:Nat} {v:PV},Holds h b v fs→(∀n,n<b→h'[n]? = h[n]?)→Holds h' b v fs
 | [],b,v,hh,_=>hh
 | f :: fs, b, v, hh, hk => by
   obtain⟨b',n,o,d,i,dv,up,h1,h2,h3,h4,h5,h6,h7,h8,h9,li,oZ,gB,mU,lz,nG,o4,pd,jE⟩:=hh
   refine⟨b',n,o,d,i,dv,up,h1,h2,h3,h4,h5,h6,h7,h8,h9,li,oZ,(hk _ h5).trans gB,(hk _ h6).trans mU,(hk _ h7).trans lz,?_,?_,pd,jE.keep λk dh=>hk k (by omega)⟩
   ·rcases nG with h|⟨m,e1,e2,e3,e4,e5,e6,e7⟩
    ·exact .inl h
    ·exact .inr ⟨m,e1,e2,e3,e4,e5,e6,(hk _ e3).trans e7⟩
   ·rcases o4 with h|⟨k,e1,e2,e3,e4⟩
    ·exact .inl h
    ·exact .inr ⟨k,e1,e2,e3,(hk _ e2).trans e4⟩
theorem Holds.up {h:List PObj}:∀{fs:List Fr} {b c:Nat} {v:PV},Holds h b v fs→b≤c→Holds h c v fs
 | [],b,c,v,hh,_=>hh
 | f :: fs, b, c, v, hh, hk => by
   obtain⟨b',n,o,d,i,dv,up,h1,h2,h3,h4,h5,h6,h7,h8,h9,li,oZ,gB,mU,lz,nG,o4,pd,jE⟩:=hh
   refine⟨b',n,o,d,i,dv,up,h1,h2,h3,h4,by omega,by omega,by omega,h8,h9,li,oZ,gB,mU,lz,?_,?_,pd,jE⟩
   ·rcases nG with h|⟨m,e1,e2,e3,e4,e5,e6,e7⟩
    ·exact .inl h
    ·exact .inr ⟨m,e1,e2,by omega,e4,e5,e6,e7⟩
   ·rcases o4 with h|⟨k,e1,e2,e3,e4⟩
    ·exact .inl h
    ·exact .inr ⟨k,e1,by omega,e3,e4⟩
theorem Holds.ptr {h:List PObj} {fs:List Fr} {b:Nat} {v:PV} (hv:Holds h b v fs):v = .nilptr∨∃n,v = .ptr n 0:=by
 cases fs with
 | nil=>exact .inl hv
 | cons f fs=>obtain⟨_,n,_,_,_,_,_,e,_⟩:=hv; exact .inr ⟨n,e⟩
theorem Holds.cp {h:List PObj} {fs:List Fr} {b:Nat} {v:PV} (hv:Holds h b v fs):cp v=some v:=by rcases hv.ptr with rfl|⟨n,rfl⟩<;>rfl
theorem Holds.tkv {h:List PObj} {fs:List Fr} {b:Nat} {v:PV} (hv:Holds h b v fs):tkv v=some (v,false):=by rcases hv.ptr with rfl|⟨n,rfl⟩<;>rfl
theorem Holds.dem {h:List PObj} {fs:List Fr} {b:Nat} {v:PV} (hv:Holds h b v fs):dem v=v:=by rcases hv.ptr with rfl|⟨n,rfl⟩<;>rfl
def xr (fs:List Fr) (x:Str):Bool:=fs.any λf=>decide (x∈f.O)
def yP (fs:List Fr) (x:Str):Bool:=fs.any λf=>decide (x∈f.D)||decide (x∈f.I)
section
variable {L:Nat→Option PFunc} (hL:∀k f,LS k=some f→L k=some f) (en:List Enum) (ns:List Node) (a b:Int)
include hL
section
variable (h:List PObj) (h3:h[3]? = some (wB en ns a b))
include h3
theorem BS (e:Int):wF L 57 [.ptr 3 0,.bool true,.int .i64 e] h=some (.val (.tuple []),h):=by
 have _:=h3
 refine zg (hL 57 _ rfl) rfl ?_
 simp[GF]
theorem BT (e:Int):wF L 57 [.ptr 3 0,.bool false,.int .i64 e] h=some (.boom (xC 1 a b e),h):=by
 refine zg (hL 57 _ rfl) rfl ?_
 simp[GF,h3,wB,xC]
theorem I1 (l:xK) (h2:h[2]? = some (wD l)) (k:Int×Str) (i:Int) (hk:k∈yJ l):wF L 28 [.ptr 3 0,zo k,.int .i64 i] h=some (.boom (xC 1 a b 7),h):=by
 have hm:=BT hL en ns a b h h3 7
 obtain⟨r,h4,h5⟩:=FJ k l 0
 cases r with
 | none =>
   have:yu k l=none:=by simpa using h5.symm
   exact absurd hk (Db.1 this)
 | some r =>
   obtain⟨j,v⟩:=r
   obtain⟨z,rfl⟩:∃z,v = .int .i64 z:=by
    cases he:yu k l with
    | none=>rw[he] at h5; simp at h5
    | some z=>rw[he] at h5; exact⟨z,by simpa using h5⟩
   refine zg (hL 28 _ rfl) rfl ?_
   have eT:zo k = .agg [.int .i64 k.1,.str k.2]:=rfl
   rw[eT] at h4 ⊢
   simp[GC,h4,h3,h2,wB,wD,hm,CV]
theorem I2 (l:xK) (h2:h[2]? = some (wD l)) (k:Int×Str) (i:Int) (hk:k∉yJ l):wF L 28 [.ptr 3 0,zo k,.int .i64 i] h=some (.val (.tuple []),h.set 2 (wD (l++[(k,i)]))):=by
 have hm:=BS hL en ns a b h h3 7
 obtain⟨r,h4,h5⟩:=FJ k l 0
 rw[Db.2 hk] at h5
 simp only[cq,Option.map_eq_none_iff] at h5
 subst h5
 refine zg (hL 28 _ rfl) rfl ?_
 have eT:zo k = .agg [.int .i64 k.1,.str k.2]:=rfl
 have e3:wD (l++[(k,i)]) = .map (l.map FH++[(.agg [.int .i64 k.1,.str k.2],.int .i64 i)]):=by simp[wD,FH,zo]
 rw[e3]
 rw[eT] at h4 ⊢
 simp[GC,h4,h3,h2,wB,wD,hm,CV]
end
theorem Hx (x:Str):∀(fs:List Fr) (h:List PObj) (b:Nat) (v:PV),Holds h b v fs→wn L 97 [v,.str x] h=some (.bool (xr fs x),h):=by
 have key:∀(fs:List Fr) (h:List PObj) (b:Nat) (v:PV),Holds h b v fs→wpL L Fe ⟨[v,.str x,.bool false],[],0,h⟩ (Bp 0 (B2 L (S (R [t 2 F]) Y) (CU D6.results (.bool (xr fs x),h)))):=by
  intro fs
  induction fs with
  | nil =>
    intro h b v hv
    have hv:v = .nilptr:=hv
    subst hv
    rw[Fe,Aw]
    simp[D6,xr]
  | cons f fs ih =>
    intro h b v hv
    obtain⟨b',n,o,d,i,dv,up,h1,h2,h3,h4,h5,h6,h7,h8,h9,li,oZ,gB,mU,lz,nG,o4,pd,jE⟩:=hv
    subst h1
    obtain⟨r,hr,el,_⟩:=Au x f.O
    rw[Fe,Aw]
    by_cases hx:x∈f.O
    ·simp[hx] at el
     obtain⟨j,rfl⟩:=el
     simp[gB,mU,hr,wZ,D6,xr,hx]
    ·simp[hx] at el
     subst el
     simp[gB,mU,hr,wZ,jE.cp,jE.tkv]
     have:=ih h b' up jE
     rw[Fe] at this
     simpa[xr,hx] using this
 intro fs h b v hv
 refine wJ (hL 97 _ rfl) rfl ?_
 simpa[D6,hv.dem] using key fs h b v hv
theorem b9s (x:Str):∀(fs:List Fr) (h:List PObj) (b:Nat) (v:PV),Holds h b v fs→wn L 98 [v,.str x] h=some (.bool (yP fs x),h):=by
 have key:∀(fs:List Fr) (h:List PObj) (b:Nat) (v:PV),Holds h b v fs→wpL L Ff ⟨[v,.str x,.bool false],[],0,h⟩ (Bp 0 (B2 L (S (R [t 2 F]) Y) (CU Dc.results (.bool (yP fs x),h)))):=by
  intro fs
  induction fs with
  | nil =>
    intro h b v hv
    have hv:v = .nilptr:=hv
    subst hv
    rw[Ff,Aw]
    simp[Dc,yP]
  | cons f fs ih =>
    intro h b v hv
    obtain⟨b',n,o,d,i,dv,up,h1,h2,h3,h4,h5,h6,h7,h8,h9,li,oZ,gB,mU,lz,nG,o4,pd,jE⟩:=hv
    subst h1
    obtain⟨r,hr,el,_⟩:=Au x f.D
    have dR:=ih h b' up jE
    rw[Ff] at dR
    rw[Ff,Aw]
    by_cases hx:x∈f.D
    ·simp[hx] at el
     obtain⟨j,rfl⟩:=el
     simp[gB,lz,hr,wZ,Dc,yP,hx]
    ·simp[hx] at el
     subst el
     rcases nG with⟨rfl,hI⟩|⟨m,rfl,_,_,_,_,_,hm⟩
     ·simp[gB,lz,hr,wZ,xN,jE.cp,jE.tkv]
      simpa[yP,hx,hI] using dR
     ·obtain⟨r,eY,gS,_⟩:=Au x f.I
      by_cases hy:x∈f.I
      ·simp[hy] at gS
       obtain⟨j,rfl⟩:=gS
       simp[gB,lz,hr,eY,hm,wZ,Dc,yP,hx,hy]
      ·simp[hy] at gS
       subst gS
       simp[gB,lz,hr,eY,hm,wZ,jE.cp,jE.tkv]
       simpa[yP,hx,hy] using dR
 intro fs h b v hv
 refine wJ (hL 98 _ rfl) rfl ?_
 simpa[Dc,hv.dem] using key fs h b v hv
end
structure TopAt (h:List PObj) (b b' n o d:Nat) (i dv up:PV) (f:Fr) (fs:List Fr):Prop where
 ln:b'≤n
 lo:b'≤o
 ld:b'≤d
 un:n<b
 uo:o<b
 ud:d<b
 no:n≠o
 nd:n≠d
 od:o≠d
 four:4≤b'
 hn:h[n]? = some (.cells [up,.map (some o),.map (some d),i,dv])
 ho:h[o]? = some (.map (bmE f.O))
 hd:h[d]? = some (.map (bmE f.D))
 hi:(i = .map none∧f.I=[])∨∃m,i = .map (some m)∧b'≤m∧m<b∧m≠n∧m≠o∧m≠d∧h[m]? = some (.map (bmE f.I))
 row:Pc h b' b dv f.df
 rne:∀k s a len,dv = .rowp k s a len→k≠n∧k≠o∧k≠d∧i≠.map (some k)
 hup:Holds h b' up fs
theorem TopAt.holds {h:List PObj} {b b' n o d:Nat} {i dv up:PV} {f:Fr} {fs:List Fr} (t:TopAt h b b' n o d i dv up f fs):Holds h b (.ptr n 0) (f::fs):=
 ⟨b',n,o,d,i,dv,up,rfl,t.ln,t.lo,t.ld,t.un,t.uo,t.ud,t.no,t.nd,t.od,t.four,t.hn,t.ho,t.hd,t.hi,t.row,t.rne,t.hup⟩
section
variable {h h':List PObj} {b b' n o d:Nat} {i dv up:PV} {f:Fr} {fs:List Fr}
theorem TopAt.keep (t:TopAt h b b' n o d i dv up f fs) (hk:∀n,n<b→h'[n]? = h[n]?):TopAt h' b b' n o d i dv up f fs where
 ln:=t.ln
 lo:=t.lo
 ld:=t.ld
 un:=t.un
 uo:=t.uo
 ud:=t.ud
 no:=t.no
 nd:=t.nd
 od:=t.od
 four:=t.four
 hn:=(hk _ t.un).trans t.hn
 ho:=(hk _ t.uo).trans t.ho
 hd:=(hk _ t.ud).trans t.hd
 hi:=by
  rcases t.hi with h|⟨m,e1,e2,e3,e4,e5,e6,e7⟩
  ·exact .inl h
  ·exact .inr ⟨m,e1,e2,e3,e4,e5,e6,(hk _ e3).trans e7⟩
 row:=by
  rcases t.row with h|⟨k,e1,e2,e3,e4⟩
  ·exact .inl h
  ·exact .inr ⟨k,e1,e2,e3,(hk _ e2).trans e4⟩
 rne:=t.rne
 hup:=t.hup.keep λk dh=>hk k (by have:=t.ln; have:=t.un; omega)
theorem TopAt.setO (t:TopAt h b b' n o d i dv up f fs) (O:List Str):TopAt (h.set o (.map (bmE O))) b b' n o d i dv up { f with O:=O } fs where
 ln:=t.ln
 lo:=t.lo
 ld:=t.ld
 un:=t.un
 uo:=t.uo
 ud:=t.ud
 no:=t.no
 nd:=t.nd
 od:=t.od
 four:=t.four
 hn:=by rw[an (Ne.symm t.no)]; exact t.hn
 ho:=by
  obtain⟨hl,_⟩:=aj.1 t.ho
  rw[aZ hl]
 hd:=by rw[an t.od]; exact t.hd
 hi:=by
  rcases t.hi with h|⟨m,e1,e2,e3,e4,e5,e6,e7⟩
  ·exact .inl h
  ·exact .inr ⟨m,e1,e2,e3,e4,e5,e6,by rw[an (Ne.symm e5)]; exact e7⟩
 row:=by
  rcases t.row with h|⟨k,e1,e2,e3,e4⟩
  ·exact .inl h
  ·exact .inr ⟨k,e1,e2,e3,by rw[an (Ne.symm (t.rne _ _ _ _ e3).2.1)]; exact e4⟩
 rne:=t.rne
 hup:=t.hup.keep λk dh=>an (by have:=t.lo; omega)
theorem TopAt.setD (t:TopAt h b b' n o d i dv up f fs) (D:List Str):TopAt (h.set d (.map (bmE D))) b b' n o d i dv up { f with D:=D } fs where
 ln:=t.ln
 lo:=t.lo
 ld:=t.ld
 un:=t.un
 uo:=t.uo
 ud:=t.ud
 no:=t.no
 nd:=t.nd
 od:=t.od
 four:=t.four
 hn:=by rw[an (Ne.symm t.nd)]; exact t.hn
 ho:=by rw[an (Ne.symm t.od)]; exact t.ho
 hd:=by
  obtain⟨hl,_⟩:=aj.1 t.hd
  rw[aZ hl]
 hi:=by
  rcases t.hi with h|⟨m,e1,e2,e3,e4,e5,e6,e7⟩
  ·exact .inl h
  ·exact .inr ⟨m,e1,e2,e3,e4,e5,e6,by rw[an (Ne.symm e6)]; exact e7⟩
 row:=by
  rcases t.row with h|⟨k,e1,e2,e3,e4⟩
  ·exact .inl h
  ·exact .inr ⟨k,e1,e2,e3,by rw[an (Ne.symm (t.rne _ _ _ _ e3).2.2.1)]; exact e4⟩
 rne:=t.rne
 hup:=t.hup.keep λk dh=>an (by have:=t.ld; omega)
end
def Bq (l:xK) (tags:List Str):Prop:=∀x,((0:Int),x)∈yJ l↔x∈tags
def NodesIn (l:xK) (ns:List Node) (k:Nat):Prop:=∀x,match callee (ns.take k) x with
 | none=>∀i:Int,yu (1,x) l=some i→¬i<k
 | some m=>∃j:Nat,yu (1,x) l=some (j:Int)∧j<k∧ns[j]? = some m
section
variable {L:Nat→Option PFunc} (hL:∀k f,LS k=some f→L k=some f) (en:List Enum) (ns:List Node) (a b:Int) (ents:xK)
include hL
theorem Mz (tags:List Str) (dV:Bq ents tags) (l:List Decl) (hl:l.length≤4800) (r:Bool) (h:List PObj) (h2:h[2]? = some (wD ents)) (h3:h[3]? = some (wB en ns a b)) (q q' n o d:Nat) (i dv up:PV) (f:Fr) (fs:List Fr) (t:TopAt h q q' n o d i dv up f fs) (vis:List Str) (dk:∀x,xr (f::fs) x=true↔x∈vis):
  ∃h' O,wF L 59 [.ptr 3 0,.ptr n 0,.list r (l.map wv)] h=some (wy 1 a b (xI tags l vis).1,h')∧Kp q' h h'∧h'.length=h.length∧TopAt h' q q' n o d i dv up { f with O:=O } fs∧((xI tags l vis).1=0→(∀x,xr ({ f with O:=O }::fs) x=true↔x∈(xI tags l vis).2)∧∀x,x∈O↔x∈f.O∨x∈wm l):=by
 suffices H:∃res,wF L 59 [.ptr 3 0,.ptr n 0,.list r (l.map wv)] h=some res∧∃h' O,res=(wy 1 a b (xI tags l vis).1,h')∧Kp q' h h'∧h'.length=h.length∧TopAt h' q q' n o d i dv up { f with O:=O } fs∧((xI tags l vis).1=0→(∀x,xr ({ f with O:=O }::fs) x=true↔x∈(xI tags l vis).2)∧∀x,x∈O↔x∈f.O∨x∈wm l) by
  obtain⟨res,e1,h',O,e2,e3⟩:=H
  exact⟨h',O,by rw[e1,e2],e3⟩
 refine BR (hL 59 _ rfl) rfl ?_
 simp[GG]
 rw[Na]
 refine xk l.length (λk st=>∃y3 y4 g h' O vis',st=⟨[.ptr 3 0,.ptr n 0,.list false (l.map wv),y3,y4,.list false (l.map wv),.int .i64 l.length,.int .i64 k],[],g,h'⟩∧Kp q' h h'∧h'.length=h.length∧TopAt h' q q' n o d i dv up { f with O:=O } fs∧xI tags l vis=xI tags (l.drop k) vis'∧(∀x,xr ({ f with O:=O }::fs) x=true↔x∈vis')∧∀x,x∈O↔x∈f.O∨x∈wm (l.take k)) ?_ ?_ ⟨_,_,_,h,f.O,vis,rfl,Kp.refl _ _,rfl,t,rfl,dk,λx=>by simp[wm]⟩
 ·rintro k hk st ⟨y3,y4,g,h',O,vis',rfl,cZ,cM,ht,dc,hv,hO⟩ ih
  have hw:=wC k (by omega)
  have fU:h'[2]? = some (wD ents):=(cZ.2 2 (by have:=ht.four; omega)).trans h2
  have eO:h'[3]? = some (wB en ns a b):=(cZ.2 3 (by have:=ht.four; omega)).trans h3
  have hT:=BS hL en ns a b h' eO 7
  have hF:=BT hL en ns a b h' eO 7
  have hs:=Hx hL l[k].name _ h' q _ ht.holds
  have jP:=hv l[k].name
  have gk:=dV l[k].name
  rw[aU hk] at dc
  simp only[xI] at dc
  obtain⟨z,hz,eD⟩:=FJ (0,l[k].name) ents 0
  simp only[zo] at hz
  have hn:=ht.hn
  have ho:=ht.ho
  cases z with
  | some z =>
    obtain⟨j,v⟩:=z
    obtain⟨u,hu,rfl⟩:∃u,yu (0,l[k].name) ents=some u∧v = .int .i64 u:=by
     cases he:yu (0,l[k].name) ents with
     | none=>rw[he] at eD; simp at eD
     | some u=>rw[he] at eD; exact⟨u,rfl,by simpa using eD⟩
    have dC:l[k].name∈tags:=gk.1 (cC λhn=>by rw[Db.2 hn] at hu; simp at hu)
    rw[ah (.inr dC)] at dc
    simp[hk,eO,wB,fU,wD,wZ,hz,hF]
    refine⟨h',by rw[dc]; exact⟨rfl,rfl⟩,cZ,cM,O,ht,by rw[dc]; simp⟩
  | none =>
    have eg:yu (0,l[k].name) ents=none:=by simpa using eD.symm
    have sc:l[k].name∉tags:=λhx=>Db.1 eg (gk.2 hx)
    by_cases hx:l[k].name∈vis'
    ·rw[ah (.inl hx)] at dc
     rw[jP.2 hx] at hs
     simp[hk,eO,wB,fU,wD,wZ,hz,hs,hF]
     refine⟨h',by rw[dc]; exact⟨rfl,rfl⟩,cZ,cM,O,ht,by rw[dc]; simp⟩
    ·rw[af (by simp[hx,sc])] at dc
     have kQ:xr ({ f with O:=O }::fs) l[k].name=false:=by
      cases hc:xr ({ f with O:=O }::fs) l[k].name with
      | false=>rfl
      | true=>exact absurd (jP.1 hc) hx
     rw[kQ] at hs
     have gg:wm (l.take (k+1))=wm (l.take k)++[l[k].name]:=by simp only[wm,bV,av hk,Option.toList,a8,aC,bw]
     obtain⟨r',hr,_,gS⟩:=Au l[k].name O
     simp[hk,eO,wB,fU,wD,wZ,hz,hs,hT,hn,ho,hr,gS,hw]
     refine ih _ ⟨_,_,_,_,Av O l[k].name,vis'++[l[k].name],rfl,cZ.trans (Kp.set ht.lo),by simp[cM],ht.setO _,dc,?_,λx=>by rw[E3,hO,gg,ak,aO,or_assoc]⟩
     ·intro x
      have:=hv x
      simp only[xr,List.any_cons,bA,aq,E3,ak,aO] at this ⊢
      rw[← this]
      constructor
      ·rintro((h1|h1)|h1)
       ·exact .inl (.inl h1)
       ·exact .inr h1
       ·exact .inl (.inr h1)
      ·rintro((h1|h1)|h1)
       ·exact .inl (.inl h1)
       ·exact .inr h1
       ·exact .inl (.inr h1)
 ·rintro st ⟨y3,y4,g,h',O,vis',rfl,cZ,cM,ht,dc,hv,hO⟩
  rw[be (ao _)] at dc
  simp only[xI] at dc
  simp[GG]
  refine⟨h',by rw[dc]; exact⟨rfl,rfl⟩,cZ,cM,O,ht,?_⟩
  rw[dc]
  intro _
  exact⟨by simpa using hv,by simpa using hO⟩
theorem MA (l:List Decl) (hl:l.length≤4800) (hd:∀d∈l,DW d) (r:Bool) (h:List PObj) (h3:h[3]? = some (wB en ns a b)) (q:Nat) (v:PV) (fs:List Fr) (hv:Holds h q v fs) (vis:List Str) (dk:∀x,xr fs x=true↔x∈vis):
  wF L 60 [.ptr 3 0,v,.list r (l.map wv)] h=some (wy 1 a b (AZ vis l),h):=by
 have hT:=BS hL en ns a b h h3 6
 have hF:=BT hL en ns a b h h3 6
 have hs:=λx=>Hx hL x _ h q _ hv
 have kS:=hv.dem
 have ij:=hv.cp
 have ik:=hv.tkv
 have pe:∀x,xr fs x=decide (x∈vis):=λx=>by rw[aI,aq]; exact dk x
 refine zg (hL 60 _ rfl) rfl ?_
 simp[GH,kS]
 have du:AZ vis l=ww (λd=>ww (λo:On=>need (decide (o.name∈vis)) 6) d.clock) l:=rfl
 rw[du]
 refine zM l (λd=>ww (λo:On=>need (decide (o.name∈vis)) 6) d.clock) (λi (x:(PV×PV×PV×PV×PV)×Nat)=>[(3,x.1.1),(4,x.1.2.1),(8,x.1.2.2.1),(9,x.1.2.2.2.1),(10,x.1.2.2.2.2),(7,.int .i64 i)]) (λ_ x=>x.2) (λ_ _=>h) ((.dead,.dead,.dead,.dead,.dead),0) ?_ ?_ ?_ rfl rfl rfl
 ·intro i dL cY x ih
  have hw:=wC i (by omega)
  have dN:=(hd _ (ai dL)).clock
  have hE:∀o∈l[i].clock,need (decide (o.name∈vis)) 6=0:=zd.1 cY
  simp[dL]
  refine zM l[i].clock (λo:On=>need (decide (o.name∈vis)) 6) (λj (y:PV×Nat)=>[(10,.int .i64 j),(4,y.1)]) (λ_ y=>y.2) (λ_ _=>h) (x.1.2.1,x.2+1) ?_ ?_ ?_ rfl rfl rfl
  ·intro j hj di y ih2
   have fO:=wC j (by omega)
   rw[zT (by decide),aq] at di
   simp[hj,hs,pe,di,hT,fO,ij,ik]
   simpa using ih2 (_,_)
  ·intro j hj di _ y
   exact absurd (hE _ (ai hj)) di
  ·intro _ y
   simp[hw]
   simpa using ih ((_,_,_,_,_),_)
 ·intro i dL cY hf x
  have dN:=(hd _ (ai dL)).clock
  rw[hf]
  simp[dL]
  refine zM l[i].clock (λo:On=>need (decide (o.name∈vis)) 6) (λj (y:PV×Nat)=>[(10,.int .i64 j),(4,y.1)]) (λ_ y=>y.2) (λ_ _=>h) (x.1.2.1,x.2+1) ?_ ?_ ?_ rfl rfl rfl
  ·intro j hj di y ih2
   have fO:=wC j (by omega)
   rw[zT (by decide),aq] at di
   simp[hj,hs,pe,di,hT,fO,ij,ik]
   simpa using ih2 (_,_)
  ·intro j hj di vm y
   have fp:¬l[i].clock[j].name∈vis:=by
    intro hm; exact di (by simp[need,hm])
   rw[vm]
   simp[hj,hs,pe,fp,hF,need,wy,ij,ik]
  ·intro h0 y
   exact absurd h0 cY
 ·intro h0 x
  rw[h0]
  simp[GH,wy]
end
section
variable {L:Nat→Option PFunc} (hL:∀k f,LS k=some f→L k=some f) (en:List Enum) (ns:List Node) (a b:Int) (ents:xK)
include hL
theorem c5w (k:Nat) (hn:NodesIn ents ns k) (s:Place) (eS:s.before=ns.take k) (e:Expr) (outs:Nat) (h:List PObj) (h2:h[2]? = some (wD ents)) (h3:h[3]? = some (wB en ns a b)):
  wF L 124 [.ptr 3 0,.int .i64 k,wq e,.int .i64 outs] h=some (wy 1 a b (Fx s e outs),h):=by
 have hT:=λz=>BS hL en ns a b h h3 z
 have hF:=λz=>BT hL en ns a b h h3 z
 obtain⟨z,hz,eD⟩:=FJ (1,e.name) ents 0
 simp only[zo] at hz
 have hc:=hn e.name
 refine zg (hL 124 _ rfl) rfl ?_
 unfold Fx
 rw[eS]
 cases lj:callee (ns.take k) e.name with
 | none =>
   rw[lj] at hc
   simp only at hc
   cases z with
   | none =>
     simp[De,h3,h2,wB,wD,wZ,hz,hF,wy]
   | some z =>
     obtain⟨j,v⟩:=z
     obtain⟨u,hu,rfl⟩:∃u,yu (1,e.name) ents=some u∧v = .int .i64 u:=by
      cases he:yu (1,e.name) ents with
      | none=>rw[he] at eD; simp at eD
      | some u=>rw[he] at eD; exact⟨u,rfl,by simpa using eD⟩
     have jN:=hc u hu
     simp[De,h3,h2,wB,wD,wZ,hz,hF,jN,wy]
 | some m =>
   rw[lj] at hc
   obtain⟨i,hi,fT,pg⟩:=hc
   cases z with
   | none=>rw[hi] at eD; simp at eD
   | some z =>
     obtain⟨j,v⟩:=z
     rw[hi] at eD
     have hv:v = .int .i64 i:=by simpa using eD
     subst hv
     have mV:(i:Int)<k:=by omega
     obtain⟨dL,pj⟩:=aj.1 pg
     have jN:(ns.map wA)[i]? = some (wA m):=by simp[pg]
     by_cases c1:(e.args.length:Int)=wrap (m.ins.length+e.v)
     ·have c1':wrap (m.ins.length+e.v)=(e.args.length:Int):=c1.symm
      by_cases c2:m.outs.length=outs
      ·have c2':outs=m.outs.length:=c2.symm
       have c3:(outs:Int)=m.outs.length:=by omega
       have c3':(m.outs.length:Int)=outs:=by omega
       simp[De,h3,h2,wB,wD,wZ,hz,hT,fT,mV,dL,pj,pg,tf c1,tf c1',tf c2,tf c3,tf c3',wy,need]
      ·have c3:¬(outs:Int)=m.outs.length:=by omega
       have c3':¬(m.outs.length:Int)=outs:=by omega
       simp[De,h3,h2,wB,wD,wZ,hz,hT,hF,fT,mV,dL,pj,pg,tf c1,tf c1',tf c2,tf c3,tf c3',wy,need]
     ·have c1':¬wrap (m.ins.length+e.v)=(e.args.length:Int):=λh=>c1 h.symm
      simp[De,h3,h2,wB,wD,wZ,hz,hT,hF,fT,mV,dL,pj,pg,tf c1,tf c1',wy,need]
def xz (h:List PObj) (k:Nat) (v:PV) (outs:Nat) (lp:Bool):List PObj:=h++[.cells [.ptr 3 0],.cells [.int .i64 k],.cells [v],.cells [.int .i64 outs],.loop lp]
omit hL in
theorem Ky (h:List PObj) (k:Nat) (v:PV) (outs:Nat) (lp:Bool) {n:Nat} (hn:n<h.length):(xz h k v outs lp)[n]? = h[n]? := by unfold xz; rw[am hn]
theorem Pd (k:Nat) (hn:NodesIn ents ns k) (s:Place) (eS:s.before=ns.take k) (x:Expr) (outs:Nat) (h:List PObj) (h2:h[2]? = some (wD ents)) (h3:h[3]? = some (wB en ns a b)) (q:Nat) (hq:q≤h.length) (v:PV) (fs:List Fr) (hv:Holds h q v fs) (dk:∀x,xr fs x=true↔x∈s.vis):
  wF L 190 [.ptr (h.length+4) 0,.ptr h.length 0,.ptr (h.length+1) 0,.ptr (h.length+2) 0,.ptr (h.length+3) 0,wq x] (xz h k v outs true)=some (if yU s outs x=0 then(.val (.bool true),xz h k v 1 true) else(.boom (xC 1 a b (yU s outs x)),xz h k v outs false)):=by
 have pn:3<h.length:=(aj.1 h3).1
 have g2:(xz h k v outs false)[2]? = some (wD ents):=by rw[Ky _ _ _ _ _ (by omega)]; exact h2
 have g3:(xz h k v outs false)[3]? = some (wB en ns a b):=by rw[Ky _ _ _ _ _ pn]; exact h3
 have hT:=λz=>BS hL en ns a b (xz h k v outs false) g3 z
 have hF:=λz=>BT hL en ns a b (xz h k v outs false) g3 z
 have hs:=Hx hL x.name _ (xz h k v outs false) q _ (hv.keep λn hn=>Ky _ _ _ _ _ (by omega))
 have hc:=c5w hL en ns a b ents k hn s eS x outs (xz h k v outs false) g2 g3
 have ij:=hv.cp
 have ik:=hv.tkv
 have kS:=hv.dem
 have pe:∀x,xr fs x=decide (x∈s.vis):=λx=>by rw[aI,aq]; exact dk x
 rw[pe] at hs
 simp only[xz] at hT hF hs hc ⊢
 refine ES (as:=[.ptr h.length 0,.ptr (h.length+1) 0,.ptr (h.length+2) 0,.ptr (h.length+3) 0,wq x]) (hL 190 _ rfl) rfl rfl (by simp) ?_
 unfold yU
 by_cases hk:x.kind=2∨x.kind=8∨x.kind=9
 ·rw[ah hk]
  by_cases hm:x.name∈s.vis
  ·simp[hm] at hs
   rcases hk with k2|k2|k2<;>simp[Df,k2,wz,yk,ij,ik,hs,hT,hm]
  ·simp[hm] at hs
   rcases hk with k2|k2|k2<;>simp[Df,k2,wz,yk,ij,ik,hs,hF,hm,need]
 ·rw[af hk]
  simp only[not_or] at hk
  obtain⟨k2,k8,k9⟩:=hk
  by_cases k10:x.kind=10
  ·rw[ah k10]
   by_cases hz:Fx s x outs=0
   ·rw[hz] at hc
    simp[wy] at hc
    simp[Df,tf k10,tf k2,tf k8,tf k9,wz,yk,ij,ik,hc,hz,wy]
   ·simp[wy,hz] at hc
    simp[Df,tf k10,tf k2,tf k8,tf k9,wz,yk,ij,ik,hc,hz,wy]
  ·rw[af k10]
   simp[Df,tf k2,tf k8,tf k9,tf k10,wz,yk,ij,ik]
end
section
variable {L:Nat→Option PFunc} (hL:∀k f,LS k=some f→L k=some f) (en:List Enum) (ns:List Node) (a b:Int) (ents:xK)
include hL
theorem Kz (k:Nat) (hn:NodesIn ents ns k) (s:Place) (eS:s.before=ns.take k) (e:Expr) (he:EW e) (outs:Nat) (h:List PObj) (h2:h[2]? = some (wD ents)) (h3:h[3]? = some (wB en ns a b)) (q:Nat) (hq:q≤h.length) (v:PV) (fs:List Fr) (hv:Holds h q v fs) (dk:∀x,xr fs x=true↔x∈s.vis):
  ∃h',wF L 99 [.ptr 3 0,.int .i64 k,v,wq e,.int .i64 outs] h=some (wy 1 a b (xg s e outs),h')∧Kp h.length h h':=by
 suffices H:∃res,wF L 99 [.ptr 3 0,.int .i64 k,v,wq e,.int .i64 outs] h=some res∧∃h',res=(wy 1 a b (xg s e outs),h')∧Kp h.length h h' by
  obtain⟨res,e1,h',e2,e3⟩:=H
  exact⟨h',by rw[e1,e2],e3⟩
 have ij:=hv.cp
 have ik:=hv.tkv
 have kS:=hv.dem
 have mG:v.cells=[v]:=by rcases hv.ptr with rfl|⟨n,rfl⟩<;>rfl
 obtain⟨h0,qu⟩:∃h0,h0=h++[.cells [.ptr 3 0],.cells [.int .i64 k],.cells [v],.cells [.int .i64 outs]]:=⟨_,rfl⟩
 have fL:h0.length=h.length+4:=by rw[qu]; simp
 have hE:=Ed hL e h0
 have gW:=λx=>Pd hL en ns a b ents k hn s eS x outs h h2 h3 q hq v fs hv dk
 have fR:=λx=>Pd hL en ns a b ents k hn s eS x 1 h h2 h3 q hq v fs hv dk
 have hl:h0++[.loop true]=xz h k v outs true:=by rw[qu]; simp[xz]
 obtain⟨y,qo,tz,hy⟩:∃y:Expr→List PObj→Option (Out×List PObj),(∀x,y x (xz h k v outs true)=some (if yU s outs x=0 then(.val (.bool true),xz h k v 1 true) else(.boom (xC 1 a b (yU s outs x)),xz h k v outs false)))∧(∀x,y x (xz h k v 1 true)=some (if yU s 1 x=0 then(.val (.bool true),xz h k v 1 true) else(.boom (xC 1 a b (yU s 1 x)),xz h k v 1 false))) ∧
   ∀x h' r,y x h'=some r→∃o:Nat,h'=xz h k v o true∧(o=outs∨o=1)∧r=(if yU s o x=0 then(.val (.bool true),xz h k v 1 true) else(.boom (xC 1 a b (yU s o x)),xz h k v o false)):=by
  classical
  refine⟨λx h'=>if h'=xz h k v outs true then some (if yU s outs x=0 then(.val (.bool true),xz h k v 1 true) else(.boom (xC 1 a b (yU s outs x)),xz h k v outs false)) else if h'=xz h k v 1 true then some (if yU s 1 x=0 then(.val (.bool true),xz h k v 1 true) else(.boom (xC 1 a b (yU s 1 x)),xz h k v 1 false)) else none,λx=>ah rfl,λx =>?_,λx h' r hr =>?_⟩
  ·simp only
   by_cases ho:outs=1
   ·subst ho; simp
   ·have:¬xz h k v 1 true=xz h k v outs true:=by
     unfold xz
     rw[List.append_cancel_left_eq]
     simp; omega
    rw[af this]; simp
  ·simp only at hr
   split at hr
   ·rename_i e1; exact⟨outs,e1,.inl rfl,(cE hr).symm⟩
   ·split at hr
    ·rename_i e1; exact⟨1,e1,.inr rfl,(cE hr).symm⟩
    ·simp at hr
 refine BR (hL 99 _ rfl) rfl ?_
 have c1:∀n o,(PV.ptr n o).cells=[.ptr n o]:=λ_ _=>rfl
 have c2:∀x,(PV.int .i64 x).cells=[.int .i64 x]:=λ_=>rfl
 have vn:wn L 81 [wq e] (h++[.cells [.ptr 3 0],.cells [.int .i64 k],.cells [v],.cells [.int .i64 outs]])=some (.func 114 [] [.cptr (wq e).cells],h++[.cells [.ptr 3 0],.cells [.int .i64 k],.cells [v],.cells [.int .i64 outs]]):=by rw[← qu]; exact hE
 simp[Fg,mG,kS,ij,ik,c1,c2,vn]
 rw[← qu]
 have cO:yw y e.list (h0++[.loop true])=some (if xg s e outs=0 then(.val (.bool true),xz h k v 1 true) else(.boom (xC 1 a b (xg s e outs)),xz h k v (if yU s outs e=0 then 1 else outs) false)):=by
  rw[hl,Expr.list_eq]
  simp only[yw,qo]
  unfold xg
  by_cases h1:yU s outs e=0
  ·simp only[h1,if_true,wx]
   exact FB (f:=yU s 1) (R:=λz=>(.boom (xC 1 a b z),xz h k v 1 false)) _ (λx _ hx=>by rw[tz,ah hx]) (λx _ hx=>by rw[tz,af hx]) (λz h'=>by simp)
  ·simp[h1,wx]
 refine Ek hL e he (cs:=[.ptr h.length 0,.ptr (h.length+1) 0,.ptr (h.length+2) 0,.ptr (h.length+3) 0]) (by simp) (by simp) (by simp[cp]) y ?_ ?_ _ cO ?_
 ·intro x _ h' r hr
  obtain⟨o,rfl,ho,rfl⟩:=hy x h' r hr
  rw[fL]
  rcases ho with rfl|rfl
  ·exact gW x
  ·exact fR x
 ·intro x h' r hr
  obtain⟨o,rfl,ho,rfl⟩:=hy x h' r hr
  split
  ·exact .inl ⟨_,_,rfl⟩
  ·exact .inr ⟨_,_,rfl⟩
 ·by_cases hz:xg s e outs=0
  ·rw[ah hz,fL]
   simp[At,xz,Fg,hz,wy]
   exact Kp.app (ao _)
  ·rw[af hz,fL]
   simp[At,xz,Fg,hz,wy]
   exact Kp.app (ao _)
theorem Pe (k:Nat) (hn:NodesIn ents ns k) (s:Place) (eS:s.before=ns.take k) (l:List Trn) (hl:l.length≤1600) (hw:∀x∈l,XW x.cond) (r:Bool) (h:List PObj) (h2:h[2]? = some (wD ents)) (h3:h[3]? = some (wB en ns a b)) (q:Nat) (hq:q≤h.length) (v:PV) (fs:List Fr) (hv:Holds h q v fs) (dk:∀x,xr fs x=true↔x∈s.vis):
  ∃h',wF L 126 [.ptr 3 0,.int .i64 k,v,.list r (l.map xe)] h=some (wy 1 a b (zZ s l),h')∧Kp h.length h h':=by
 suffices H:∃res,wF L 126 [.ptr 3 0,.int .i64 k,v,.list r (l.map xe)] h=some res∧∃h',res=(wy 1 a b (zZ s l),h')∧Kp h.length h h' by
  obtain⟨res,e1,h',e2,e3⟩:=H
  exact⟨h',by rw[e1,e2],e3⟩
 have ij:=hv.cp
 have ik:=hv.tkv
 have kS:=hv.dem
 refine BR (hL 126 _ rfl) rfl ?_
 simp[GN,kS]
 rw[NA]
 refine xk l.length (λj st=>∃y4 g h',st=⟨[.ptr 3 0,.int .i64 k,v,.list false (l.map xe),y4,.list false (l.map xe),.int .i64 l.length,.int .i64 j],[],g,h'⟩∧Kp h.length h h'∧zZ s l=zZ s (l.drop j)) ?_ ?_ ⟨_,_,h,rfl,Kp.refl _ _,rfl⟩
 ·rintro j hj st ⟨y4,g,h',rfl,cZ,dc⟩ ih
  have fV:=wC j (by omega)
  have pn:3<h.length:=(aj.1 h3).1
  have fU:h'[2]? = some (wD ents):=(cZ.2 2 (by omega)).trans h2
  have eO:h'[3]? = some (wB en ns a b):=(cZ.2 3 pn).trans h3
  obtain⟨h'',hx,ff⟩:=Kz hL en ns a b ents k hn s eS l[j].cond (hw _ (ai hj)).ew 1 h' fU eO q (aT hq cZ.1) v fs (hv.keep λn hn=>cZ.2 n (by omega)) dk
  have fq:Kp h.length h h'':=cZ.trans (ff.le cZ.1)
  rw[aU hj] at dc
  have gu:zZ s (l[j]::l.drop (j+1))=if xg s l[j].cond 1=0 then zZ s (l.drop (j+1)) else xg s l[j].cond 1:=rfl
  rw[gu] at dc
  by_cases hz:xg s l[j].cond 1=0
  ·rw[ah hz] at dc
   rw[hz] at hx
   simp[wy] at hx
   simp[hj,ij,ik,hx,fV]
   exact ih _ ⟨_,_,_,rfl,fq,dc⟩
  ·rw[af hz] at dc
   simp[wy,hz] at hx
   simp[hj,ij,ik,hx]
   exact⟨h'',by simp[dc,wy,hz],fq⟩
 ·rintro st ⟨y4,g,h',rfl,cZ,dc⟩
  rw[be (ao _)] at dc
  have:zZ s l=0:=dc
  simp[GN]
  exact⟨h',by simp[this,wy],cZ⟩
end
end PI.Sc
