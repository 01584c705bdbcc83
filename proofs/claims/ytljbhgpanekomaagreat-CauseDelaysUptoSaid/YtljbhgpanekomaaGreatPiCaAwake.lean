import Derived.Test.YtljbhgpanekomaaGreatPiCaCode
import Derived.Test.YtljbhgpanekomaaGreatPiCaSpec
import Derived.Test.YtljbhgpanekomaaGreatPiCaPw
set_option maxRecDepth 100000
set_option linter.unusedSimpArgs false
set_option linter.unusedSectionVars false
namespace PI.Sc
open Go (IntKind BinOp UnOp)
open Short
def xE1:List PV:=[.list false [.str [97]],.int .i64 1,.int .i64 0,.int .i64 2,.int .i64 1,.str [],.list false []]
def xV (n:UInt8):PV := .agg [.int .i64 2,.int .i64 0,.int .i64 0,.int .i64 0,.str [n],.list false []]
def xE2:List PV:=[.list false [.str [120]],.int .i64 3,.int .i64 6,.int .i64 0,.int .i64 0,.str [],.list false [xV 121,.agg [.int .i64 1,.int .i64 0,.int .i64 2,.int .i64 1,.str [],.list false []]]]
def xP2:List PV:=[.list false [.str [120]],.int .i64 5,.int .i64 0,.int .i64 0,.int .i64 0,.str [],.list false [xV 121]]
def xE3:List PV:=[.list false [.str [121]],.int .i64 3,.int .i64 6,.int .i64 0,.int .i64 0,.str [],.list false [xV 120,xV 97]]
def xD (n:UInt8):PV := .agg [.str [n],.int .i64 2,.list false []]
def xN (e:PV):PV := .agg [.list false [],.list false [.agg [.str [102],.list false [],.list false [xD 97,xD 120,xD 121],.list false [],e,.list false [],.list false [],.list false []]]]
def xS:PV:=xN (.list false [.agg xE1,.agg xE2,.agg xE3])
def xQ:PV:=xN (.list false [.agg xE1,.agg xP2,.agg xE3])
def xL:PV := .list false [.agg [.int .i64 0,.int .i64 2],.agg [.int .i64 1,.int .i64 2],.agg [.int .i64 2,.int .i64 1]]
def isR (r:Option (PV×List PObj)) (v:PV) (h:List PObj):Bool:=match r with
 | some (v',h')=>v'.beq v&&decide (h'=h)
 | none=>false
theorem CI {k:Nat} {as h h':List _} {v:PV} (e:isR (call LS 200 k as h) v h'=true):wj LS k as h=some (v,h'):=by
 refine At.2 ⟨200,?_⟩
 unfold isR at e
 split at e
 ·rename_i v1 h1 e1
  simp only[ak,PV.beq_iff,aw] at e
  rw[e1,e.1,e.2]
 ·cases e
theorem k1:isR (call LS 200 207 [] []) (xN (.rowp 0 7 true 3)) [.cells (xE1++xE2++xE3)]=true:=by decide +kernel
theorem k2:isR (call LS 200 197 [xS] []) (.tuple [.agg [.int .i64 0,.int .i64 1],.int .i64 13]) []=true:=by decide +kernel
theorem k3:isR (call LS 200 199 [xS,.int .i64 0] []) (.tuple [xL,.int .i64 0]) []=true:=by decide +kernel
theorem k4:isR (call LS 200 200 [xS,.int .i64 0] []) (.tuple [.list false [],.int .i64 13]) []=true:=by decide +kernel
theorem k6:isR (call LS 200 208 [.str [121]] []) (xV 121) []=true:=by decide +kernel
theorem k7:isR (call LS 200 200 [xQ,.int .i64 0] []) (.tuple [.list false [.int .i64 0,.int .i64 1,.int .i64 2],.int .i64 0]) []=true:=by decide +kernel
theorem k8:isR (call LS 200 202 [xL,xL] []) (.bool true) []=true:=by decide +kernel
theorem k9:isR (call LS 200 206 [.list false [.int .i64 0,.int .i64 1,.int .i64 2],.list false [.int .i64 0,.int .i64 1,.int .i64 2]] []) (.bool true) []=true:=by decide +kernel
theorem c1r:∃h',wj LS 198 [] []=some (.bool true,h'):=by
 suffices H:∃r,wj LS 198 [] []=some r∧r.1 = .bool true by
  obtain⟨⟨v,h'⟩,h1,h2⟩:=H
  simp only at h2; subst h2
  exact⟨h',h1⟩
 have c1:=CI k1
 have c2:=CI k2
 have c3:=CI k3
 have c4:=CI k4
 have c6:=CI k6
 have c7:=CI k7
 have c8:=CI k8
 have c9:=CI k9
 simp only[xS,xQ,xL,xN,xE1,xE2,xE3,xP2,xV,xD,aL,aY] at c1 c2 c3 c4 c6 c7 c8 c9
 refine Be rfl rfl ?_
 simp[IJ,c1,c2,c3,c4,c6,c7,c8,c9,frz,zJ,AK,BN,Aa,Ai,yF,wq,PV.cells,wO,yO,zi,AH,Ag,w6,xR,xV,xD]
 done
end PI.Sc
set_option maxRecDepth 100000
set_option linter.unusedSimpArgs false
set_option linter.unusedVariables false
namespace PI.Sc
open Go (IntKind BinOp UnOp)
open Short
theorem D8:Enc wE 8:=⟨λ_=>rfl,λ_=>rfl,λ_=>rfl,by decide⟩
theorem NV:∀(l:List Node) (k:Nat) (x:Node),k<l.length→((l.map wE).flatMap PV.cells).take (k*8)++((wE x).cells++((l.map wE).flatMap PV.cells).drop (k*8+8))=((l.set k x).map wE).flatMap PV.cells
 | y :: l, 0, x, _ => by
   simp only[ax,aG,List.set_cons_zero,Nat.zero_mul,cz,aY,aM]
   congr 1
 | y :: l, k + 1, x, h => by
   have ih:=NV l k x (by simpa using h)
   have e1:(k+1)*8=(wE y).cells.length+k*8:=by show _=8+_; omega
   have e2:(k+1)*8+8=(wE y).cells.length+(k*8+8):=by show _=8+_; omega
   simp only[ax,aG,List.set_cons_succ]
   rw[e2,e1,List.take_length_add_append,List.drop_length_add_append,aJ,ih]
section
variable {L:Nat→Option PFunc} (hL:∀k f,LS k=some f→L k=some f)
include hL
theorem b8f (p:Prog) (hw:PW p) (k:Nat) (hk:k<p.nodes.length) (ho:p.nodes[k].outs≠[]) (V0 V1 V3 V4 V5 V7 V10 V11 V12 V13 V14:PV) (g:Nat) (h:List PObj) {Q:PExit→St→Prop}
  (hq:∀y9 y10 g',Q (.exit 0) ⟨[V0,V1,.loc 0 (xw p).cells,V3,V4,V5,.int .i64 k,V7,.loc 3 [.str p.nodes[k].name,.list false (p.nodes[k].ins.map wo),.list false (p.nodes[k].outs.map wo),.list false (p.nodes[k].locals.map wo),.list true ((xz p.nodes[k]).eqs.map wX),.list false (p.nodes[k].autos.map wY),.list false (p.nodes[k].assume.map wl),.list false (p.nodes[k].ensure.map wl)],y9,y10,V11,V12,V13,V14],[],g',h⟩):
  wpL L JD ⟨[V0,V1,.loc 0 (xw p).cells,V3,V4,V5,.int .i64 k,V7,.loc 3 [.str p.nodes[k].name,.list false (p.nodes[k].ins.map wo),.list false (p.nodes[k].outs.map wo),.list false (p.nodes[k].locals.map wo),.list true [],.list false (p.nodes[k].autos.map wY),.list false (p.nodes[k].assume.map wl),.list false (p.nodes[k].ensure.map wl)],.int .i64 0,V10,V11,V12,V13,V14],[],g,h⟩ Q:=by
 rw[JD]
 obtain⟨N,hN⟩:∃N,N=p.nodes[k]:=⟨_,rfl⟩
 have qO:=hw.ns _ (aj hk)
 rw[← hN] at ho qO hq ⊢
 have np:=qO.eqs
 have qH:(xz N).eqs=N.eqs.map (zD (zV N)):=rfl
 rw[qH] at hq
 refine xc N.eqs.length (λi st=>∃y10 g',st=⟨[V0,V1,.loc 0 [.list false (p.enums.map wA),.list false (p.nodes.map wE)],V3,V4,V5,.int .i64 k,V7,.loc 3 [.str N.name,.list false (N.ins.map wo),.list false (N.outs.map wo),.list false (N.locals.map wo),.list true (((N.eqs.map (zD (zV N))).take i).map wX),.list false (N.autos.map wY),.list false (N.assume.map wl),.list false (N.ensure.map wl)],.int .i64 i,y10,V11,V12,V13,V14],[],g',h⟩) ?_ ?_ ⟨V10,g,rfl⟩
 ·rintro i hi st ⟨y10,g',rfl⟩ ih
  have nW:=wF i (by omega)
  have uy:=qO.es _ (aj hi)
  have dC:=c1A hL (zV N) N.eqs[i].right uy.right.parts
  have ii:i<(N.eqs.map (zD (zV N))).length:=by simpa using hi
  have cO:((N.eqs.map (zD (zV N))).take i).length+1≤2147483648:=by rw[bk]; omega
  have ih2:=λy10 g'=>ih _ ⟨y10,g',rfl⟩
  rw[zL ii,List.getElem_map] at ih2
  simp only[aU,ax,ba] at ih2
  obtain⟨d,ds,hd⟩:∃d ds,N.outs=d::ds:=by
   cases uz:N.outs with
   | nil=>exact absurd uz ho
   | cons d ds=>exact⟨d,ds,rfl⟩
  have mw:zV N=d.name:=by simp[zV,hd,wk]
  simp only[mw] at dC ih2 cO ⊢
  generalize (N.eqs.map (zD d.name)).take i=z at *
  simp[hi,hk,← hN,nW,dC,hd,cO]
  simp only[hd,ax,D4,zD] at ih2
  exact ih2 _ _
 ·rintro st ⟨y10,g',rfl⟩
  have e:(N.eqs.map (zD (zV N))).take N.eqs.length=N.eqs.map (zD (zV N)):=by rw[← aA (f:=zD (zV N)),aP]
  rw[e]
  simp[hk,← hN]
  simpa using hq _ _ _
end
theorem b8g {c:List (Str×List On)} (dt:∀s cl,xt c s=some cl→cl.length≤4) (s:Str):(yW c s).length≤4:=by
 unfold yW
 cases hs:xt c s with
 | none=>simp
 | some cl=>simpa using dt s cl hs
theorem NX {c:List (Str×List On)} (dt:∀s cl,xt c s=some cl→cl.length≤4):∀q:List Str,(q.flatMap (yW c)).length≤q.length*4
 | []=>by simp
 | x :: q => by
   have:=b8g dt x
   have ih:=NX dt q
   simp only[aG,ap,aI]; omega
theorem NY {b:List (Str×Int)} {c:List (Str×List On)} (dt:∀s cl,xt c s=some cl→cl.length≤4):∀(qs:List (List Str×List Str)) (j:Nat),(∀q∈qs,q.1.length≤64∧q.2.length≤400)→(yq b c qs j).length≤qs.length*1000
 | [],_,_=>by simp[yq]
 | q :: qs, j, h => by
   have ih:=NY (b:=b) dt qs (j+1) (λx hx=>h x (by simp[hx]))
   have hq:=h q (by simp)
   have h2:=Do b j (q.2++q.1.flatMap (yW c))
   have h3:=NX dt q.1
   simp only[yq,CQ,ap,aI] at h2 ⊢
   omega
theorem c0m (n:Node) (hn:EdN n):(A2 n).length≤256000:=by
 have dt:∀s cl,xt (clk [] (vars n)) s=some cl→cl.length≤4:=Ka (vars n) [] hn.clock (by intro s cl h; simp[xt] at h)
 have h1:=NZ (zC yX (yq (byE ((xP n).map (·.1)) 0 []) (clk [] (vars n)) (xP n) 0)) []
 have h2:=(Hm yX (yq (byE ((xP n).map (·.1)) 0 []) (clk [] (vars n)) (xP n) 0)).length_eq
 have h3:=NY (b:=byE ((xP n).map (·.1)) 0 []) dt (xP n) 0 (by
  intro q hq
  simp only[xP,bc] at hq
  obtain⟨e,he,rfl⟩:=hq
  have hl:=hn.left e he
  have hr:=hn.right e he
  have dI:=Fw [] e.right
  unfold Expr.parts at hr
  simp only[bB] at dI
  exact⟨hl,by simp only; omega⟩)
 have h4:(xP n).length=n.eqs.length:=by simp[xP]
 have h5:=hn.eqs
 unfold A2 N1
 unfold yK
 simp only[bB] at h1
 omega
theorem N2 {p:Prog} (h:Ab p=none) (hp:plain p=true):D7 p=Ck:=by
 unfold D7
 rw[h,hp]; rfl
theorem c3Y (p:Prog) (k:Nat) (hk:k<p.nodes.length) (D:List PV) (hD:D=((p.nodes.set k (xz p.nodes[k])).map wE).flatMap PV.cells):
  zJ [.gone,.cells D] [.agg [.list false (p.enums.map wA),.rowp 1 8 true p.nodes.length],.int .i64 k]=[xw (AP p k hk),.int .i64 k]:=by
 have hl:(p.nodes.set k (xz p.nodes[k])).length=p.nodes.length:=bp
 have h1:=D8.els (p.nodes.set k (xz p.nodes[k])) D (by rw[hD,bW (by rw[D8.cellsLen]; exact ao _)])
 rw[hl] at h1
 have h2:Ai [.gone,.cells D] (.rowp 1 8 true p.nodes.length)=some (.list false ((p.nodes.set k (xz p.nodes[k])).map wE)):=by
  simp only[Ai,true_or,if_true,bY,bZ,h1,aB]
 have h3:frz [.gone,.cells D] (.list false (p.enums.map wA)) = .list false (p.enums.map wA):=FA _ _ (by simp)
 simp only[zJ,frz,h2,bO]
 rw[show PV.list false (zJ [.gone,.cells D] (p.enums.map wA)) = .list false (p.enums.map wA) from h3]
 rfl
theorem b4s (p:Prog) (hw:PW p) (hs:parts p≤1100000) (m:Nat) (hm:m<256):∃h',wj LS 195 [xw p,.int .u8 m] []=some (.bool true,h'):=by
 have hL:∀k f,LS k=some f→LS k=some f:=λ_ _ h=>h
 suffices H:∃r,wj LS 195 [xw p,.int .u8 m] []=some r∧r.1 = .bool true by
  obtain⟨⟨r,h⟩,h1,h2⟩:=H
  simp only at h2; subst h2
  exact⟨h,h1⟩
 obtain⟨ha,lc⟩:=c1r
 obtain⟨hc,ic⟩:=Mp hL p hw hs
 unfold ze at ic
 have gI:=hw.nodes
 have eA:=NJ hL p (by omega) []
 refine Be rfl rfl ?_
 by_cases he:(zQ (Ab p)).err=0
 ·cases fc:plain p with
  | false =>
    rw[fc] at eA
    simp[D1,ic,he,eA,lc,xR]
  | true =>
    rw[fc] at eA
    by_cases h0:p.nodes=[]
    ·have uA:(p.nodes.length:Int)=0:=by rw[h0]; rfl
     simp[D1,ic,he,eA,lc,tf uA,tf h0,xR]
    ·have dE:0<p.nodes.length:=by
      have:p.nodes.length≠0:=λe=>h0 (bu.1 e)
      omega
     have nX:¬(p.nodes.length:Int)=0:=by omega
     have eK:Ab p=none:=by
      cases hb:Ab p with
      | none=>rfl
      | some b=>rw[hb] at he; exact absurd he (b8l hb)
     obtain⟨k,hk⟩:∃k,k=m % p.nodes.length:=⟨_,rfl⟩
     have eW:k<p.nodes.length:=by rw[hk]; exact bJ _ dE
     have uB:IntKind.i64.wrap (m:Int)=m:=E2 m (by omega)
     have eP:((m:Int).tmod (p.nodes.length:Int))=(k:Int):=by rw[hk,Int.tmod_eq_emod_of_nonneg (by omega)]; rfl
     obtain⟨C,hC⟩:∃C,C=(p.nodes.map wE).flatMap PV.cells:=⟨_,rfl⟩
     have hCl:C.length=p.nodes.length*8:=by rw[hC]; exact D8.cellsLen p.nodes
     have hh:∀V l g,AL [.cells []] 8 true 184 (p.nodes.map wE) (.rowp 0 8 true 0) ⟨V,l,g,[.cells []]⟩=some (.rowp 1 8 true p.nodes.length,⟨V,l,g,[.gone,.cells C]⟩):=by
      intro V l g
      have e1:w6 8 (p.nodes.map wE)=true:=D8.head p.nodes
      have e2:0+(p.nodes.map wE).length≤2147483648:=by rw[aA]; omega
      simp only[AL,bZ,e1,e2,D8.cellsDem,← hC,aA,aM,Nat.zero_mul,cz,ba,aY,bB,Nat.zero_le,and_true,true_and]
      rw[ah (by rw[aA] at e2; exact⟨by omega,by decide⟩)]
      have e3:C.map PI.dem=C:=by rw[hC]; exact D8.cellsDem p.nodes
      rw[e3]
      rfl
     have d4:=N3 eK _ (aj eW)
     have ho:=(Kd d4.1).1
     simp[D1,ic,he,eA,nX,h0,uB,eP,hh,eW]
     refine b8f hL p hw k eW ho _ _ _ _ _ _ _ _ _ _ _ _ _ ?_
     intro y9 y10 g'
     obtain⟨D,hD⟩:∃D,D=List.take (k*8) C++PV.str p.nodes[k].name::PV.list false (List.map wo p.nodes[k].ins)::PV.list false (List.map wo p.nodes[k].outs)::PV.list false (List.map wo p.nodes[k].locals)::PV.list false (List.map wX (xz p.nodes[k]).eqs) ::
       PV.list false (List.map wY p.nodes[k].autos)::PV.list false (List.map wl p.nodes[k].assume)::PV.list false (List.map wl p.nodes[k].ensure)::List.drop (k*8+8) C:=⟨_,rfl⟩
     have uC:D=((p.nodes.set k (xz p.nodes[k])).map wE).flatMap PV.cells:=by
      rw[← NV p.nodes k (xz p.nodes[k]) eW,← hC,hD]; rfl
     have uD:k*8+8≤C.length:=by omega
     have qP:=c3Y p k eW D uC
     obtain⟨sS,mz⟩:=b6W eW (λn hn q hq=>((hw.ns n hn).es q hq).right.parts) eK fc
     have nY:=N4 (hw.ns _ (aj eW)) d4
     obtain⟨g1,sT⟩:=NU hL p hw hs (N2 eK fc) k eW nY
     have mt:k<(AP p k eW).nodes.length:=by show k<(p.nodes.set k _).length; rw[bp]; exact eW
     have uE:(AP p k eW).nodes[k]=xz p.nodes[k]:=by simp[AP]
     have sU:=c35 eW hw
     have uF:=N3 sS _ (aj mt)
     have qQ:=N4 (sU.ns _ (aj mt)) uF
     obtain⟨g2,qR⟩:=NU hL (AP p k eW) sU (aR (b6E eW) hs) (N2 sS mz) k mt qQ
     rw[uE,b8I] at qR
     have qS:wz [xw (AP p k eW),.int .i64 k]=true:=by simp[wz,wB]
     have nZ:=c1B hL (A2 p.nodes[k]) (by have:=c0m p.nodes[k] nY; omega) []
     obtain⟨W,hW⟩:∃W,W=(A2 p.nodes[k]).map λx=>PV.agg (wV x):=⟨_,rfl⟩
     rw[← hW] at sT qR nZ
     have uG:wz W=true:=by rw[hW]; exact Kb _
     simp[eW,uD,← hD,sT,qP,qS,qR,nZ,uG,lc,xR,FA]
 ·simp[D1,ic,he,lc,xR]
end PI.Sc
