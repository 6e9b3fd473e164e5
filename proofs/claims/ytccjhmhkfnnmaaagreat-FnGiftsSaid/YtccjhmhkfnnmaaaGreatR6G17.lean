import Derived.Test.YtccjhmhkfnnmaaaGreatR6G16
import Derived.Test.YtccjhmhkfnnmaaaGreatAmG9
import Derived.Test.YtccjhmhkfnnmaaaGreatR6G15
import Derived.Test.YtccjhmhkfnnmaaaGreatAmG10
set_option linter.unusedVariables false
set_option linter.unusedSimpArgs false
namespace Go.Proofs.YtccjhmhkfnnmaaaGreat
open Go.AM
variable {Γ:cj}
theorem xo{H:AH}{b:Nat}{cs:List AV}{off:Nat}{v:AV}(hg:bJ H b=some (0,cs))(ho:off+1≤cs.length)(hv:bo v=true)(e:List AV)(l:List (List AV)):(St.mk e l H).store (.gp b 0 off) [v]=some ⟨e,l,H.set b (some (0,cB cs off [v]))⟩:=by
  simp only[St.store,hg,Option.bind_some,if_true,List.length_cons,List.length_nil,Nat.zero_add]
  rw[if_pos ho];simp[hv]
theorem BX{H:AH}{b:Nat}{x:Nat×List AV}(h:b<H.length):bJ (H.set b (some x)) b=some x:=by simp[bJ,h]
theorem DU(a:Int):∃x,dY .and .num (.int .i64 a) (.int .i64 255)=some (.int .i64 x)∧0≤x∧x≤255:=BO a (m:=255) (by omega)
theorem SP(H:AH){b:Nat}{bs:List Int}(hb:bs.length≤1073741824)(hc:nc H b bs):T Tryz.prog Γ Fn.N3 [.gp b 0 0] H fun v h'=>∃x:Int,v=.int .i64 x∧0≤x∧x≤255∧nc h' b bs∧h'.length=H.length∧∀c,c≠b→h'[c]? = H[c]?:=by
  obtain⟨i,hh,hi,hg⟩:=hc
  have hbl:b<H.length:=c5 hg
  have L0:=dN false 1 false bs (fun n=>[AV.int .u8 n])
  have cl:∀(e:List AV) (l:List (List AV)) (off n:Nat),(St.mk e l H).cells (.gp b 0 off) n=sub [.vs false 1 false (bs.map fun n=>[.int .u8 n]),.int .i64 i,.int .i64 hh] off n:=fun e l off n=>bk hg
  refine Ua (aD aJ aK [] _ _ _ ?_)
  unfold Mk
  obtain⟨h1,e1⟩:∃h1,h1=IntKind.i64.wrap (IntKind.i64.wrap (hh*6364136223846793005)+1442695040888963407):=⟨_,rfl⟩
  have st:=xo (off:=2) (v:=.int .i64 h1) hg (by simp) rfl
  have eo:cB [AV.vs false 1 false (bs.map fun n=>[.int .u8 n]),.int .i64 i,.int .i64 hh] 2 [.int .i64 h1]=[.vs false 1 false (bs.map fun n=>[.int .u8 n]),.int .i64 i,.int .i64 h1]:=rfl
  rw[eo]at st
  obtain⟨H1,hH1⟩:∃H1,H1=H.set b (some (0,[.vs false 1 false (bs.map fun n=>[.int .u8 n]),.int .i64 i,.int .i64 h1])):=⟨_,rfl⟩
  rw[←hH1]at st
  have hg1:bJ H1 b=some (0,[.vs false 1 false (bs.map fun n=>[.int .u8 n]),.int .i64 i,.int .i64 h1]):=by rw[hH1];exact BX hbl
  have cl1:∀(e:List AV) (l:List (List AV)) (off n:Nat),(St.mk e l H1).cells (.gp b 0 off) n=sub [.vs false 1 false (bs.map fun n=>[.int .u8 n]),.int .i64 i,.int .i64 h1] off n:=fun e l off n=>bk hg1
  have hl1:H1.length=H.length:=by rw[hH1];simp
  have hf1:∀c,c≠b→H1[c]? = H[c]?:=fun c hc=>by rw[hH1];exact List.getElem?_set_ne (Ne.symm hc)
  obtain⟨x1,s1⟩:=HK .i64 .u64 h1 (b:=33) (by omega)
  obtain⟨x2,s2⟩:=HK .i64 .u64 h1 (b:=47) (by omega)
  obtain⟨x3,s3⟩:=NS .i64 x1 x2
  obtain⟨x4,s4,x40,x41⟩:=DU x3
  simp only[EZ,ag,Nat.reduceAdd,Nat.reduceBEq,DE,vn,vg,uu,cl,←e1,st,cl1,s1,s2,s3,s4,L0]
  by_cases hlt:i<(bs.length:Int)
  rotate_left
  · simp only[EZ,ag,Nat.reduceAdd,Nat.reduceBEq,DE,vn,vg,uu,decide_eq_false hlt]
    first|exact⟨rfl,x4,rfl,x40,x41,⟨i,h1,hi,hg1⟩,hl1,hf1⟩|exact⟨x4,rfl,x40,x41,⟨i,h1,hi,hg1⟩,hl1,hf1⟩
  obtain⟨k,rfl⟩:∃k:Nat,i=k:=⟨i.toNat,by omega⟩
  have hk:k<bs.length:=by omega
  have i0:=dy (β:=false) (sz:=1) (ex:=false) (ce:=fun n:Int=>[AV.int .u8 n]) hk
  obtain⟨x5,s5,x50,x51⟩:=DU (IntKind.i64.wrap (x4+IntKind.i64.wrap bs[k]))
  have st2:=xo (off:=1) (v:=.int .i64 (IntKind.i64.wrap ((k:Int)+1))) hg1 (by simp) rfl
  have hw:IntKind.i64.wrap ((k:Int)+1)=((k+1:Nat):Int):=wN (by omega)
  simp only[EZ,ag,Nat.reduceAdd,Nat.reduceBEq,DE,vn,vg,uu,decide_eq_true hlt,cl1,i0,K3,s5,st2]
  have hbl1:b<H1.length:=by omega
  have fin:nc (H1.set b (some (0,cB [AV.vs false 1 false (bs.map fun n=>[.int .u8 n]),.int .i64 (k:Int),.int .i64 h1] 1 [.int .i64 (IntKind.i64.wrap ((k:Int)+1))]))) b bs:=⟨((k+1:Nat):Int),h1,by omega,by rw[BX hbl1,hw];rfl⟩
  have hl2:(H1.set b (some (0,cB [AV.vs false 1 false (bs.map fun n=>[.int .u8 n]),.int .i64 (k:Int),.int .i64 h1] 1 [.int .i64 (IntKind.i64.wrap ((k:Int)+1))]))).length=H.length:=by simp[hl1]
  have hf2:∀c,c≠b→(H1.set b (some (0,cB [AV.vs false 1 false (bs.map fun n=>[.int .u8 n]),.int .i64 (k:Int),.int .i64 h1] 1 [.int .i64 (IntKind.i64.wrap ((k:Int)+1))])))[c]? = H[c]?:=fun c hc=>by rw[List.getElem?_set_ne (Ne.symm hc)];exact hf1 c hc
  first|exact⟨rfl,x5,rfl,x50,x51,fin,hl2,hf2⟩|exact⟨x5,rfl,x50,x51,fin,hl2,hf2⟩
theorem CG{x n:Int}(hx:0≤x)(hn:0<n):∃r,dY .rem .num (.int .i64 x) (.int .i64 n)=some (.int .i64 r)∧0≤r∧r<n:=by
  refine⟨x.tmod n,?_,?_,?_⟩
  · simp only[dY,iC,if_true];rw[if_neg (by omega)]
  · exact Int.tmod_nonneg n hx
  · exact Int.tmod_lt_of_pos x hn
structure vh (H h':AH) (b:Nat) (bs:List Int):Prop where
  cur:nc h' b bs
  len:h'.length=H.length
  fr:∀c,c≠b→h'[c]? = H[c]?
theorem vh.trans{H h1 h2:AH}{b:Nat}{bs:List Int}(a:vh H h1 b bs)(c:vh h1 h2 b bs):vh H h2 b bs:=⟨c.cur,c.len.trans a.len,fun x hx=>(c.fr x hx).trans (a.fr x hx)⟩
theorem qZ(H:AH){b:Nat}{bs:List Int}(hb:bs.length≤1073741824)(hc:nc H b bs):T Tryz.prog Γ Fn.N3 [.gp b 0 0] H fun v h'=>∃x:Int,v=.int .i64 x∧0≤x∧x≤255∧vh H h' b bs:=
  (SP H hb hc).mono fun v h' ⟨x,e,h0,h1,h2,h3,h4⟩=>⟨x,e,h0,h1,⟨h2,h3,h4⟩⟩
theorem Q8(H:AH){b:Nat}{bs:List Int}(hb:bs.length≤1073741824)(hc:nc H b bs)(n:Int):T Tryz.prog Γ Fn.jg [.gp b 0 0,.int .i64 n] H fun v h'=>∃x:Int,v=.int .i64 x∧0≤x∧(0<n→x<n)∧vh H h' b bs:=by
  have h0:vh H H b bs:=⟨hc,rfl,fun _ _=>rfl⟩
  refine SR (aD aJ aK [] _ _ _ ?_)
  unfold LH
  by_cases c1:n≤0
  · simp only[EZ,ag,Nat.reduceAdd,Nat.reduceBEq,sS,decide_eq_true c1]
    first|exact⟨rfl,0,rfl,by omega,fun h=>by omega,h0⟩|exact⟨0,rfl,by omega,fun h=>by omega,h0⟩
  by_cases c2:n≤256
  · simp only[EZ,ag,Nat.reduceAdd,Nat.reduceBEq,sS,decide_eq_false c1,decide_eq_true c2]
    refine ah.ref (by simp only[EO]) (qZ _ hb hc) ?_
    rintro _ H1 ⟨x,rfl,x0,x1,d1⟩
    replace d1:vh H H1 b bs:=d1
    obtain⟨r,e,r0,r1⟩:=CG x0 (show 0<n by omega)
    simp only[EZ,ag,Nat.reduceAdd,Nat.reduceBEq,sS,e]
    first|exact⟨rfl,r,rfl,r0,fun _=>r1,d1⟩|exact⟨r,rfl,r0,fun _=>r1,d1⟩
  simp only[EZ,ag,Nat.reduceAdd,Nat.reduceBEq,sS,decide_eq_false c1,decide_eq_false c2]
  refine ah.ref (by simp only[EO]) (qZ _ hb hc) ?_
  rintro _ H1 ⟨x,rfl,x0,x1,d1⟩
  replace d1:vh H H1 b bs:=d1
  simp only[EZ,ag,Nat.reduceAdd,Nat.reduceBEq,sS]
  refine ah.ref (by simp only[EO]) (qZ _ hb d1.cur) ?_
  rintro _ H2 ⟨y,rfl,y0,y1,d2⟩
  replace d2:vh H1 H2 b bs:=d2
  simp only[EZ,ag,Nat.reduceAdd,Nat.reduceBEq,sS]
  refine ah.ref (by simp only[EO]) (qZ _ hb d2.cur) ?_
  rintro _ H3 ⟨z,rfl,z0,z1,d3⟩
  replace d3:vh H2 H3 b bs:=d3
  have w1:IntKind.i64.wrap (x*65536)=x*65536:=by
    have:x*65536=((x.toNat*65536:Nat):Int):=by omega
    rw[this];exact iv (by omega) (by omega)
  have w2:IntKind.i64.wrap (y*256)=y*256:=by
    have:y*256=((y.toNat*256:Nat):Int):=by omega
    rw[this];exact iv (by omega) (by omega)
  have w3:IntKind.i64.wrap (x*65536+y*256)=x*65536+y*256:=by
    have:x*65536+y*256=((x.toNat*65536+y.toNat*256:Nat):Int):=by omega
    rw[this];exact iv (by omega) (by omega)
  have w4:IntKind.i64.wrap (x*65536+y*256+z)=x*65536+y*256+z:=by
    have:x*65536+y*256+z=((x.toNat*65536+y.toNat*256+z.toNat:Nat):Int):=by omega
    rw[this];exact iv (by omega) (by omega)
  obtain⟨r,e,r0,r1⟩:=CG (show 0≤x*65536+y*256+z by omega) (show 0<n by omega)
  simp only[EZ,ag,Nat.reduceAdd,Nat.reduceBEq,sS,w1,w2,w3,w4,e]
  have d:=(d1.trans d2).trans d3
  first|exact⟨rfl,r,rfl,r0,fun _=>r1,d⟩|exact⟨r,rfl,r0,fun _=>r1,d⟩
theorem aW(H:AH){b:Nat}{bs:List Int}(hb:bs.length≤1073741824)(hc:nc H b bs)(n:Int):T Tryz.prog Γ Fn.jg [.gp b 0 0,.int .i64 n] H fun v h'=>∃x:Int,v=.int .i64 x∧0≤x∧(0<n→x<n)∧aR H h' b bs:=
  (Q8 H hb hc n).mono fun v h' ⟨x,e,h0,h1,d⟩=>⟨x,e,h0,h1,⟨d.cur,Nat.le_of_eq d.len.symm,fun c _ hcb=>d.fr c hcb⟩⟩
theorem HI(H:AH){b:Nat}{bs:List Int}(hb:bs.length≤1073741824)(hc:nc H b bs){w:AV}{fp:List Nat}{l:List Int}(o:bN H w (.sl 1 (l.map fun n=>[.i .i64 n])) fp)(hbf:b∉fp)(h0:0<l.length):
    T Tryz.prog Γ Fn.UD [.gp b 0 0,w] H fun v h'=>∃x:Int,v=.int .i64 x∧aR H h' b bs:=by
  obtain⟨c1,c2,c3,c4⟩:=o.cell
  have La:=(dE o).2
  rw[List.length_map]at La
  refine QJ (aD aJ aK [] _ _ _ ?_)
  unfold JK
  simp only[EZ,ag,Nat.reduceAdd,Nat.reduceBEq,HG,La]
  refine ah.ref (by simp only[EO]) (aW _ hb hc _) ?_
  rintro _ H1 ⟨x,rfl,x0,x1,d1⟩
  replace d1:aR H H1 b bs:=d1
  obtain⟨k,rfl⟩:∃k:Nat,x=k:=⟨x.toNat,by omega⟩
  have hk:k<l.length:=by have:=x1 (by omega);omega
  obtain⟨p,e1,e2⟩:=I1 (d1.own o hbf) hk
  simp only[EZ,ag,Nat.reduceAdd,Nat.reduceBEq,HG,e1,e2]
  first|exact⟨rfl,_,rfl,d1⟩|exact⟨_,rfl,d1⟩
theorem rk(h:AH)(l:List Int){n:Nat}(hn:l.length=n):bN (h++[some (0,(l.map fun n=>[AV.int .i64 n]).flatten)]) (.gs h.length 0 0 n n 1 true) (.sl 1 (l.map fun n=>[.i .i64 n])) [h.length]:=by
  subst hn
  have hl:(l.map fun n=>[AV.int .i64 n]).flatten=(l.map fun n=>[CD.i .i64 n]).flatten.map (CD.av false):=by simp[List.map_flatten,Function.comp_def,CD.fb]
  have:=bN.sl_mk (h:=h++[some (0,(l.map fun n=>[AV.int .i64 n]).flatten)]) (b:=h.length) (g:=0) (cap:=l.length) (sz:=1) (ex:=true) («as»:=(l.map fun n=>[AV.int .i64 n]).flatten) (tail:=[]) (xs:=l.map fun n=>[CD.i .i64 n]) (fp:=[])
    (by rw[List.append_nil];exact cw _ _) (fun y hy=>by obtain⟨x,_,rfl⟩:=List.mem_map.1 hy;rfl) (by simp) (by simp) (by rw[hl];exact jA false (ve l))
  simpa using this
theorem O8(z:AV):(List.replicate 5 [z]).flatten=[z,z,z,z,z]:=rfl
theorem I0{x n:Int}(hn:0<n):∃r,dY .rem .num (.int .i64 x) (.int .i64 n)=some (.int .i64 r)∧-n<r∧r<n:=by
  refine⟨x.tmod n,?_,?_,?_⟩
  · simp only[dY,iC,if_true];rw[if_neg (by omega)]
  · have:=Int.tmod_lt_of_pos (-x) hn;rw[Int.neg_tmod]at this;omega
  · exact Int.tmod_lt_of_pos x hn
def FC(n lo hi:Int):Bool:=decide (lo≤n) && decide (n≤hi)
theorem NW(n lo hi:Int)(h:AH):T Tryz.prog Γ Fn.ke [.int .i64 n,.int .i64 lo,.int .i64 hi] h fun v h'=>v=.bool (FC n lo hi)∧h'=h:=by
  refine KY (aD aJ aK [] _ _ _ ?_)
  unfold FJ
  by_cases c1:lo≤n<;>by_cases c2:n≤hi<;>(simp only[EZ,ag,Nat.reduceAdd,Nat.reduceBEq,DR,c1,c2,decide_true,decide_false];first|exact⟨rfl,by simp[FC,c1,c2]⟩|simp[FC,c1,c2])
theorem R5(n m:Int)(h0:1≤m)(h1:m≤1000000000000)(h:AH):T Tryz.prog Γ Fn.VS [.int .i64 n,.int .i64 m] h fun v h'=>(∃x:Int,v=.int .i64 x∧0≤x∧x<m)∧h'=h:=by
  obtain⟨r,e1,r0,r1⟩:=I0 (x:=n) (n:=m) (by omega)
  have w:IntKind.i64.wrap (r+m)=r+m:=by
    have:r+m=(((r+m).toNat:Nat):Int):=by omega
    rw[this];exact iv (by omega) (by omega)
  obtain⟨q,e2,q0,q1⟩:=CG (x:=r+m) (n:=m) (by omega) (by omega)
  have hin:FC m 1 1000000000000=true:=by simp[FC,h0,h1]
  refine Qv (aD aJ aK [] _ _ _ ?_)
  unfold L6
  simp only[EZ,ag,Nat.reduceAdd,Nat.reduceBEq,GO]
  refine ah.val (by simp only[EO]) (NW _ _ _ _) ?_
  simp only[EZ,ag,Nat.reduceAdd,Nat.reduceBEq,GO,hin,e1,w,e2]
  first|exact⟨rfl,⟨q,rfl,q0,q1⟩,rfl⟩|exact⟨rfl,q,rfl,q0,q1⟩|exact⟨⟨q,rfl,q0,q1⟩,rfl⟩|exact⟨q,rfl,q0,q1⟩
theorem Ov(a:Int):∃x,dY .and .num (.int .i64 a) (.int .i64 1073741823)=some (.int .i64 x)∧0≤x∧x≤1073741823:=BO a (m:=1073741823) (by omega)
theorem Gy(bs:List Int)(hb:bs.length≤1073741824)(h:AH):T Tryz.prog Γ Fn.Pq [.vs false 1 false (bs.map fun n=>[.int .u8 n])] h fun v h'=>∃b,v=.gp b 0 0∧nc h' b bs∧bQ h h'∧h.length≤b:=by
  have L0:=dN false 1 false bs (fun n=>[AV.int .u8 n])
  refine Rk (aD aJ aK [31] _ _ _ ?_)
  unfold Ju
  simp only[EZ,ag,Nat.reduceAdd,Nat.reduceBEq,Bn,L0]
  obtain⟨s0,hs0⟩:∃s0,s0=IntKind.i64.wrap (193017+(bs.length:Int)):=⟨_,rfl⟩
  rw[←hs0]
  refine dD aJ aK [31] (fun x:Nat×Int=>x.1≤bs.length) (fun x=>bs.length-x.1)
    (fun x=>rW (.vs false 1 false (bs.map fun n=>[.int .u8 n])) (.int .i64 x.2) (.int .i64 x.1) [] h) (0,s0) (by simp) ⟨by simp[rW,eP,eM],rfl,rfl⟩ ?_
  rintro⟨k,hh⟩ hk
  simp only at hk
  have fin:∀z:Int,nc (h++[some (0,[AV.vs false 1 false (bs.map fun n=>[AV.int .u8 n]),.int .i64 0,.int .i64 z])]) h.length bs:=fun z=>⟨0,z,by omega,cw _ _⟩
  have bg:∀(s:St) (z:Int),Dg true s (some [AV.vs false 1 false (bs.map fun n=>[AV.int .u8 n]),.int .i64 0,.int .i64 z])=.val (.gp s.heap.length 0 0) (s.push [AV.vs false 1 false (bs.map fun n=>[AV.int .u8 n]),.int .i64 0,.int .i64 z]):=fun s z=>pQ _ _ rfl
  by_cases c1:(k:Int)<(bs.length:Int)
  rotate_left
  · simp only[EZ,ag,Nat.reduceAdd,Nat.reduceBEq,Bn,rW,L0,decide_eq_false c1,bg,g9]
    exact⟨rfl,h.length,rfl,fin _,bQ.app _ _,Nat.le_refl _⟩
  by_cases c2:(k:Int)<4000
  rotate_left
  · simp only[EZ,ag,Nat.reduceAdd,Nat.reduceBEq,Bn,rW,L0,decide_eq_true c1,decide_eq_false c2,bg,g9]
    exact⟨rfl,h.length,rfl,fin _,bQ.app _ _,Nat.le_refl _⟩
  have hlt:k<bs.length:=by omega
  have i0:=dy (β:=false) (sz:=1) (ex:=false) (ce:=fun n:Int=>[AV.int .u8 n]) hlt
  obtain⟨x,e,_,_⟩:=Ov (IntKind.i64.wrap (IntKind.i64.wrap (IntKind.i64.wrap (hh*137)+IntKind.i64.wrap bs[k])+11))
  simp only[EZ,ag,Nat.reduceAdd,Nat.reduceBEq,Bn,rW,L0,decide_eq_true c1,decide_eq_true c2,i0,K3,e]
  exact⟨(k+1,x),hlt,by simp only;omega,⟨by rw[wN (by omega)];simp[rW,eP,eM],rfl,rfl⟩⟩
end Go.Proofs.YtccjhmhkfnnmaaaGreat
namespace Go.Proofs.YtccjhmhkfnnmaaaGreat
open Go.AM
variable {Γ:cj}
def i4(v:aA)(to_:Int)(m:aB):aA:=if ki v.aq to_=true then { v with out:=v.out++[⟨to_,m⟩] }else v
set_option maxHeartbeats 1000000 in
theorem Cm(v:aA)(hL:v.aq.length≤1048576)(ho:v.out.length≤1048576)(to_:Int)(m:aB)(H:AH){b:Nat}{f:List Nat}(a:js H b v f){am:List AV}{fm:List Nat}(om:aO H am m.cd fm)(nm:fm.Nodup)(dm:∀c∈fm,c∉f∧c≠b):
    T Tryz.prog Γ Fn.Ix [.gp b 0 0,.int .i64 to_,.agg am] H fun r H'=>r=.tup []∧gU H b (fun c=>c∈f∨c∈fm) H' (i4 v to_ m):=by
  obtain⟨wE,w2,wL,w4,fE,f2,fL,f4,rfl,o⟩:=a
  have hb:=o.hb
  have bf:=o.bf
  have blt:=o.blt
  have vlt:=o.lt
  have cb:∀(e:List AV) (L:List (List AV)) (off n:Nat),(St.mk e L H).cells (.gp b 0 off) n=sub [.int .i64 v.id,wE,w2,wL,w4] off n:=fun e L off n=>bk hb
  obtain⟨a1,a2,a3,a4⟩:=o.oE.cell
  obtain⟨b1,b2,b3,b4⟩:=o.o2.cell
  obtain⟨c1,c2,c3,c4⟩:=o.oL.cell
  obtain⟨d1,d2,d3,d4⟩:=o.o4.cell
  obtain⟨_,lE⟩:=dE o.oE
  rw[List.length_map]at lE
  have oo:=om
  simp only[aB.cd,gI,gD,hU,jP,jm]at oo
  obtain⟨_,_,_,_,rfl,_,⟨rfl,rfl⟩,⟨_,_,_,_,rfl,_,⟨rfl,rfl⟩,⟨_,_,_,_,rfl,_,⟨rfl,rfl⟩,⟨_,_,_,_,rfl,_,⟨rfl,rfl⟩,⟨_,_,_,_,rfl,_,⟨rfl,rfl⟩,⟨az5,_,_,_,rfl,_,uz5,⟨_,_,_,_,rfl,_,⟨rfl,rfl⟩,⟨_,_,_,_,rfl,_,⟨rfl,rfl⟩,⟨_,_,_,_,rfl,_,⟨rfl,rfl⟩,⟨_,_,_,_,rfl,_,⟨rfl,rfl⟩,⟨_,_,_,_,rfl,_,⟨rfl,rfl⟩,⟨_,_,_,_,rfl,_,⟨rfl,rfl⟩,⟨rfl,_⟩⟩⟩⟩⟩⟩⟩⟩⟩⟩⟩⟩⟩:=oo
  obtain⟨cz5a,cz5b,cz5c,cz5d⟩:=uz5.cell
  refine Uz (aD aJ aK [] _ _ _ ?_)
  unfold Kf
  simp only[EZ,ag,Nat.reduceAdd,Nat.reduceBEq,D2,vx,aF,cb]
  refine ah.dT (by simp only[EO,a3,b3,c3,d3]) (aI (aO.dT (aA.bM true v) o.own) (aI (.same _) bm)) (fun h=>i6 true v hL to_ h) (.bool _) ?_
  cases hu:ki v.aq to_
  · simp only[EZ,ag,Nat.reduceAdd,Nat.reduceBEq,D2,vx]
    have e:i4 v to_ m=v:=by rw[i4,hu];rfl
    rw[e]
    first|exact⟨rfl,rfl,gU.refl o.at fun c hc=>.inl hc⟩|exact⟨rfl,gU.refl o.at fun c hc=>.inl hc⟩|exact gU.refl o.at fun c hc=>.inl hc
  have nd2:(f4++fm).Nodup:=List.nodup_append.2 ⟨o.n4,nm,fun x hx y hy e=>(dm y hy).1 (bU.2 (.inr (.inr (.inr (e▸hx)))))⟩
  obtain⟨v',H1,f4',ea,o',nd',hf',hl',hm'⟩:=dw (bytes:=128) o.o4 nd2 (by omega) rfl (aO.i (k:=.i64) (n:=to_) om) (by simp only[List.length_map,aU];omega)
  obtain⟨j1,j2,j3,j4⟩:=o'.cell
  have hb1:bJ H1 b=some (0,[.int .i64 v.id,wE,w2,wL,w4]):=by rw[bO (hf' b o.b4 blt)];exact hb
  obtain⟨H2,s2,hb2,l2,r2⟩:=Db hb1 (i:=4) (w:=v') (by simp) j3
  simp only[EZ,ag,Nat.reduceAdd,Nat.reduceBEq,D2,vx,EA,aF,kb,Aq,A6,At,cb,cz5a,cz5b,cz5c,ea,j1,j2,j3,s2]
  have e:i4 v to_ m={ v with out:=v.out++[⟨to_,m⟩] }:=by rw[i4,hu];rfl
  rw[e]
  have o2:=o.Vs (G:=fm) (l':=v.out++[⟨to_,m⟩]) (f4':=f4') hb2 ((by rw[List.map_append];exact o':bN H1 v' (.sl 13 ((v.out++[(⟨to_,m⟩:bc)]).map bc.cd)) f4').frame fun c hc=>r2 c (fun e=>by
    subst e
    rcases hm' c hc with g|g|g
    · exact o.b4 g
    · exact(dm c g).2 rfl
    · omega)) nd' hm' dm (by omega) (fun c h1 h2 h3 h4=>by rw[r2 c h3,hf' c h1 h4])
  have fin:gU H b (fun c=>c∈gB fE f2 fL f4∨c∈fm) H2 { v with out:=v.out++[⟨to_,m⟩] }:=o2.up (by omega) (fun c hc=>by
    rcases bU.1 hc with g|g|g|g
    · exact .inl (.inl (bU.2 (.inl g)))
    · exact .inl (.inl (bU.2 (.inr (.inl g))))
    · exact .inl (.inl (bU.2 (.inr (.inr (.inl g)))))
    · rcases hm' c g with q|q|q
      · exact .inl (.inl (bU.2 (.inr (.inr (.inr q)))))
      · exact .inl (.inr q)
      · exact .inr q) (fun c h1 h2 h3=>by rw[r2 c h2,hf' c (fun h=>h1 (.inl (bU.2 (.inr (.inr (.inr h)))))) h3])
  first|exact⟨rfl,rfl,fin⟩|exact⟨rfl,fin⟩|exact fin
def fW(v:aA)(e:aE):aA:=if 200≤v.entities.length then v else { v with entities:=v.entities++[e] }
def lO(v:aA):Int:=if 200≤v.entities.length then -1 else v.entities.length
set_option maxHeartbeats 1000000 in
theorem Gi(v:aA)(x:aE)(H:AH){b:Nat}{f:List Nat}(a:js H b v f){am:List AV}{fm:List Nat}(om:aO H am x.cd fm)(nm:fm.Nodup)(dm:∀c∈fm,c∉f∧c≠b):
    T Tryz.prog Γ Fn.SU [.gp b 0 0,.agg am] H fun r H'=>r=.int .i64 (lO v)∧gU H b (fun c=>c∈f∨c∈fm) H' (fW v x):=by
  obtain⟨wE,w2,wL,w4,fE,f2,fL,f4,rfl,o⟩:=a
  have hb:=o.hb
  have bf:=o.bf
  have blt:=o.blt
  have vlt:=o.lt
  have cb:∀(e:List AV) (L:List (List AV)) (off n:Nat),(St.mk e L H).cells (.gp b 0 off) n=sub [.int .i64 v.id,wE,w2,wL,w4] off n:=fun e L off n=>bk hb
  obtain⟨a1,a2,a3,a4⟩:=o.oE.cell
  obtain⟨b1,b2,b3,b4⟩:=o.o2.cell
  obtain⟨c1,c2,c3,c4⟩:=o.oL.cell
  obtain⟨d1,d2,d3,d4⟩:=o.o4.cell
  obtain⟨_,lE⟩:=dE o.oE
  rw[List.length_map]at lE
  have oo:=om
  simp only[aE.cd,gI,gD,hU,jP,jm]at oo
  obtain⟨_,_,_,_,rfl,_,⟨rfl,rfl⟩,⟨_,_,_,_,rfl,_,⟨rfl,rfl⟩,⟨az2,_,_,_,rfl,_,uz2,⟨_,_,_,_,rfl,_,⟨rfl,rfl⟩,⟨_,_,_,_,rfl,_,⟨rfl,rfl⟩,⟨_,_,_,_,rfl,_,⟨rfl,rfl⟩,⟨az6,_,_,_,rfl,_,uz6,⟨az7,_,_,_,rfl,_,uz7,⟨_,_,_,_,rfl,_,⟨rfl,rfl⟩,⟨_,_,_,_,rfl,_,⟨rfl,rfl⟩,⟨_,_,_,_,rfl,_,⟨rfl,rfl⟩,⟨_,_,_,_,rfl,_,⟨rfl,rfl⟩,⟨rfl,_⟩⟩⟩⟩⟩⟩⟩⟩⟩⟩⟩⟩⟩:=oo
  obtain⟨cz2a,cz2b,cz2c,cz2d⟩:=uz2.cell
  obtain⟨cz6a,cz6b,cz6c,cz6d⟩:=uz6.cell
  obtain⟨cz7a,cz7b,cz7c,cz7d⟩:=uz7.cell
  refine P2 (aD aJ aK [] _ _ _ ?_)
  unfold Jv
  simp only[EZ,ag,Nat.reduceAdd,Nat.reduceBEq,DD,va,aF,cb]
  by_cases hf:200≤v.entities.length
  · simp only[EZ,ag,Nat.reduceAdd,Nat.reduceBEq,DD,va,cb,lE,show decide ((200:Int)≤(v.entities.length:Int))=true from decide_eq_true (by omega)]
    have e:fW v x=v:=by rw[fW,if_pos hf]
    have e2:lO v = -1:=by rw[lO,if_pos hf]
    rw[e,e2]
    first|exact⟨rfl,rfl,gU.refl o.at fun c hc=>.inl hc⟩|exact⟨rfl,gU.refl o.at fun c hc=>.inl hc⟩|exact gU.refl o.at fun c hc=>.inl hc
  have nd2:(fE++fm).Nodup:=List.nodup_append.2 ⟨o.nE,nm,fun x hx y hy e=>(dm y hy).1 (bU.2 (.inl (e▸hx)))⟩
  obtain⟨v',H1,fE',ea,o',nd',hf',hl',hm'⟩:=dw (bytes:=144) o.oE nd2 (by omega) rfl om (by simp only[List.length_map,aU];omega)
  obtain⟨j1,j2,j3,j4⟩:=o'.cell
  obtain⟨_,lE'⟩:=dE o'
  simp only[List.length_append,List.length_map,List.length_cons,List.length_nil,Nat.zero_add]at lE'
  have hb1:bJ H1 b=some (0,[.int .i64 v.id,wE,w2,wL,w4]):=by rw[bO (hf' b o.bE blt)];exact hb
  obtain⟨H2,s2,hb2,l2,r2⟩:=Db hb1 (i:=1) (w:=v') (by simp) j3
  have cb2:∀(e:List AV) (L:List (List AV)) (off n:Nat),(St.mk e L H2).cells (.gp b 0 off) n=sub [.int .i64 v.id,v',w2,wL,w4] off n:=fun e L off n=>bk hb2
  simp only[EZ,ag,Nat.reduceAdd,Nat.reduceBEq,DD,va,EA,aF,cb,lE,show decide ((200:Int)≤(v.entities.length:Int))=false from decide_eq_false (by omega),cz2a,cz2b,cz2c,cz6a,cz6b,cz6c,cz7a,cz7b,cz7c,ea,j1,j2,j3,s2,cb2,lE']
  have e:fW v x={ v with entities:=v.entities++[x] }:=by rw[fW,if_neg hf]
  have e2:lO v=IntKind.i64.wrap (((v.entities.length+1:Nat):Int)-1):=by rw[lO,if_neg hf,iv (by omega) (by omega)];omega
  rw[e,e2]
  have o2:=o.Tq (G:=fm) (es':=v.entities++[x]) (fE':=fE') hb2 ((by simpa using o':bN H1 v' (.sl 12 ((v.entities++[x]).map aE.cd)) fE').frame fun c hc=>r2 c (fun e=>by
    subst e
    rcases hm' c hc with g|g|g
    · exact o.bE g
    · exact(dm c g).2 rfl
    · omega)) nd' hm' dm (by omega) (fun c h1 h2 h3 h4=>by rw[r2 c h3,hf' c h1 h4])
  have fin:gU H b (fun c=>c∈gB fE f2 fL f4∨c∈fm) H2 { v with entities:=v.entities++[x] }:=o2.up (by omega) (fun c hc=>by
    rcases bU.1 hc with g|g|g|g
    · rcases hm' c g with q|q|q
      · exact .inl (.inl (bU.2 (.inl q)))
      · exact .inl (.inr q)
      · exact .inr q
    · exact .inl (.inl (bU.2 (.inr (.inl g))))
    · exact .inl (.inl (bU.2 (.inr (.inr (.inl g)))))
    · exact .inl (.inl (bU.2 (.inr (.inr (.inr g)))))) (fun c h1 h2 h3=>by rw[r2 c h2,hf' c (fun h=>h1 (.inl (bU.2 (.inl h)))) h3])
  first|exact⟨rfl,rfl,fin⟩|exact⟨rfl,fin⟩|exact fin
end Go.Proofs.YtccjhmhkfnnmaaaGreat
namespace Go.Proofs.YtccjhmhkfnnmaaaGreat
open Go.AM
variable {Γ:cj}
theorem et{H:AH}{row:List AV}{e:aE}{f:List Nat}(o:aO H row e.cd f):∃wS wQ wA fS fQ fA,row=[.int .i64 e.kind,.int .i64 e.script,wS,.int .i64 e.state,.int .i64 e.value.kind,.int .i64 e.value.n,wQ,wA,.int .i64 e.peer,.int .i64 e.pos,.int .i64 e.count,.int .i64 e.sent]∧f=fS++(fQ++fA)∧
    bN H wS (.sl 2 (e.slots.map ar.cd)) fS∧bN H wQ (.sl 7 (e.queue.map aX.cd)) fQ∧bN H wA (.sl 2 (e.askers.map cD.cd)) fA:=by
  simp only[aE.cd,gI,gD,hU,jP,jm]at o
  obtain⟨_,_,_,_,rfl,rfl,⟨rfl,rfl⟩,⟨_,_,_,_,rfl,rfl,⟨rfl,rfl⟩,⟨wS,_,fS,_,rfl,rfl,oS,⟨_,_,_,_,rfl,rfl,⟨rfl,rfl⟩,⟨_,_,_,_,rfl,rfl,⟨rfl,rfl⟩,⟨_,_,_,_,rfl,rfl,⟨rfl,rfl⟩,⟨wQ,_,fQ,_,rfl,rfl,oQ,⟨wA,_,fA,_,rfl,rfl,oA,
    ⟨_,_,_,_,rfl,rfl,⟨rfl,rfl⟩,⟨_,_,_,_,rfl,rfl,⟨rfl,rfl⟩,⟨_,_,_,_,rfl,rfl,⟨rfl,rfl⟩,⟨_,_,_,_,rfl,rfl,⟨rfl,rfl⟩,⟨rfl,rfl⟩⟩⟩⟩⟩⟩⟩⟩⟩⟩⟩⟩⟩:=o
  exact⟨wS,wQ,wA,fS,fQ,fA,rfl,by simp,oS,oQ,oA⟩
theorem iQ{H:AH}{e:aE}{wS wQ wA:AV}{fS fQ fA:List Nat}(oS:bN H wS (.sl 2 (e.slots.map ar.cd)) fS)(oQ:bN H wQ (.sl 7 (e.queue.map aX.cd)) fQ)(oA:bN H wA (.sl 2 (e.askers.map cD.cd)) fA):
    aO H [.int .i64 e.kind,.int .i64 e.script,wS,.int .i64 e.state,.int .i64 e.value.kind,.int .i64 e.value.n,wQ,wA,.int .i64 e.peer,.int .i64 e.pos,.int .i64 e.count,.int .i64 e.sent] e.cd (fS++(fQ++fA)):=by
  have e':fA=fA++[]:=by simp
  rw[e']
  exact .i (.i (.o oS (.i (.i (.i (.o oQ (.o oA (.i (.i (.i (.i .nil)))))))))))
def cr(v:aA)(peer:Int)(x:ar):aA×aV:=
  if (decide ((eK v x).kind=0) && qe (eK v x).n 0 999999)=true then (v,⟨0,(eK v x).n⟩)
  else if (decide ((eK v x).kind=1) && (dU (eK v x).n v.entities.length && ki v.aq peer))=true then
    (if (decide ((v.entities.getD (eK v x).n.toNat default).kind=3) && decide ((v.entities.getD (eK v x).n.toNat default).peer=peer))=true then (v,⟨2,(v.entities.getD (eK v x).n.toNat default).pos⟩)
    else ({ v with aq:=v.aq.set (dI (fun l:aC=>l.peer == peer) v.aq).toNat (df (v.aq.getD (dI (fun l:aC=>l.peer == peer) v.aq).toNat default) (eK v x).n).1 },⟨1,(df (v.aq.getD (dI (fun l:aC=>l.peer == peer) v.aq).toNat default) (eK v x).n).2⟩))
  else (v,⟨3,0⟩)
set_option maxHeartbeats 4000000 in
set_option maxRecDepth 100000 in
theorem Jz(v:aA)(hE:v.entities.length≤1048576)(hL:v.aq.length≤1048576)(hlk:∀l∈v.aq,l.ok 1048576)(peer:Int)(x:ar)(H:AH){b:Nat}{wE w2 wL w4:AV}{fE f2 fL f4:List Nat}(o:VO H b v wE w2 wL w4 fE f2 fL f4):
    T Tryz.prog Γ Fn.OR [.gp b 0 0,.int .i64 peer,.agg (x.c false)] H fun r H'=>r=.agg ((cr v peer x).2.c false)∧Fq H b wE w2 wL w4 fE f2 fL f4 H' (cr v peer x).1:=by
  have hb:=o.hb
  have bf:=o.bf
  have blt:=o.blt
  have vlt:=o.lt
  have cb:∀(e:List AV) (L:List (List AV)) (off n:Nat),(St.mk e L H).cells (.gp b 0 off) n=sub [.int .i64 v.id,wE,w2,wL,w4] off n:=fun e L off n=>bk hb
  obtain⟨a1,a2,a3,a4⟩:=o.oE.cell
  obtain⟨b1,b2,b3,b4⟩:=o.o2.cell
  obtain⟨c1,c2,c3,c4⟩:=o.oL.cell
  obtain⟨d1,d2,d3,d4⟩:=o.o4.cell
  obtain⟨_,lE⟩:=dE o.oE
  rw[List.length_map]at lE
  obtain⟨y,hy⟩:∃y,y=eK v x:=⟨_,rfl⟩
  have tw:cr v peer x=cr v peer x:=rfl
  conv at tw=>rhs;unfold cr
  simp only[←hy]at tw
  refine SW (aD aJ aK [] _ _ _ ?_)
  unfold Kh
  cases t1:(decide (y.kind=0) && qe y.n 0 999999)
  rotate_left
  · rw[t1,if_pos rfl]at tw
    obtain⟨k0,r0⟩:=Bool.and_eq_true_iff.1 t1
    simp only[EZ,ag,Nat.reduceAdd,Nat.reduceBEq,dz,bC,bB,bt,bz,bD,aF,aP,ER,EF,ar.c,cb,lE,a1,a2,a3,b1,b2,b3,c1,c2,c3,d1,d2,d3,an,ae,k0,r0,show decide (y.kind=0)=true from k0]
    repeat' (first
      | (guard_target =~ Mem _ _;first|exact Mem.loc ⟨_,([]:List (List AV))++[_,_],_⟩ _ [_]|exact Mem.loc ⟨_,([]:List (List AV))++[_,_,_],_⟩ _ [_]|exact Mem.loc ⟨_,([]:List (List AV))++[_,_,_,_],_⟩ _ [_]|exact eg.mem _ _ _)
      | (guard_target =~ fY _ _ _;first|exact eN rfl|exact g6 (L':=[_]) rfl)
      | (guard_target =~ ah _ _ Fn.vd _ _ _
         refine ah.dT (by simp only[EO,a3,b3,c3,d3]) (aI (aO.dT (aA.bM true v) o.own) (aI (.same _) bm)) (fun h=>mJ true v hE x h) (.agg _ (by intro z hz;simp only[ar.c,List.mem_cons,List.not_mem_nil,or_false]at hz;rcases hz with rfl|rfl<;>exact .int _ _)) ?_
         rw[←hy]
         simp only[EZ,ag,Nat.reduceAdd,Nat.reduceBEq,dz,bC,bB,bt,bz,bD,aF,aP,ER,EF,ar.c,cb,lE,a1,a2,a3,b1,b2,b3,c1,c2,c3,d1,d2,d3,an,ae,k0,r0,show decide (y.kind=0)=true from k0])
      | (guard_target =~ ah _ _ Fn.ke [_,AV.int _ 0,AV.int _ 999999] _ _
         refine ah.val (by simp only[EO]) (dH _ _ _ _) ?_
         simp only[EZ,ag,Nat.reduceAdd,Nat.reduceBEq,dz,bC,bB,bt,bz,bD,aF,aP,ER,EF,ar.c,cb,lE,a1,a2,a3,b1,b2,b3,c1,c2,c3,d1,d2,d3,an,ae,k0,r0,show decide (y.kind=0)=true from k0])
      | (guard_target =~ ah _ _ Fn.ke _ _ _
         refine ah.val (by simp only[EO]) (dH _ _ _ _) ?_
         rw[dF _ hE]
         simp only[EZ,ag,Nat.reduceAdd,Nat.reduceBEq,dz,bC,bB,bt,bz,bD,aF,aP,ER,EF,ar.c,cb,lE,a1,a2,a3,b1,b2,b3,c1,c2,c3,d1,d2,d3,an,ae,k0,r0,show decide (y.kind=0)=true from k0])
      | (guard_target =~ ah _ _ Fn.vS _ _ _
         refine ah.dT (by simp only[EO,a3,b3,c3,d3]) (aI (aO.dT (aA.bM true v) o.own) (aI (.same _) bm)) (fun h=>i6 true v hL peer h) (.bool _) ?_
         simp only[EZ,ag,Nat.reduceAdd,Nat.reduceBEq,dz,bC,bB,bt,bz,bD,aF,aP,ER,EF,ar.c,cb,lE,a1,a2,a3,b1,b2,b3,c1,c2,c3,d1,d2,d3,an,ae,k0,r0,show decide (y.kind=0)=true from k0])
      | exact⟨by rw[tw];rfl,by rw[tw];exact Fq.refl o⟩
      | (guard_target =~ c7 _=true;rfl)
      | refine And.intro ?_ ?_)
  have z0:(decide (y.kind=0)=true∧qe y.n 0 999999=false)∨decide (y.kind=0)=false:=by
    cases hk:decide (y.kind=0)
    · exact .inr rfl
    · rw[hk,Bool.true_and]at t1;exact .inl ⟨rfl,t1⟩
  simp only[t1,Bool.false_eq_true,if_false]at tw
  by_cases k1:y.kind=1
  rotate_left
  · have k1':decide (y.kind=1)=false:=decide_eq_false k1
    simp only[k1',Bool.false_and,Bool.false_eq_true,if_false]at tw
    rcases z0 with⟨k0,r0⟩|k0
    · skip
      simp only[EZ,ag,Nat.reduceAdd,Nat.reduceBEq,dz,bC,bB,bt,bz,bD,aF,aP,ER,EF,ar.c,cb,lE,a1,a2,a3,b1,b2,b3,c1,c2,c3,d1,d2,d3,an,ae,k0,r0,k1']
      repeat' (first
        | (guard_target =~ Mem _ _;first|exact Mem.loc ⟨_,([]:List (List AV))++[_,_],_⟩ _ [_]|exact Mem.loc ⟨_,([]:List (List AV))++[_,_,_],_⟩ _ [_]|exact Mem.loc ⟨_,([]:List (List AV))++[_,_,_,_],_⟩ _ [_]|exact eg.mem _ _ _)
        | (guard_target =~ fY _ _ _;first|exact eN rfl|exact g6 (L':=[_]) rfl)
        | (guard_target =~ ah _ _ Fn.vd _ _ _
           refine ah.dT (by simp only[EO,a3,b3,c3,d3]) (aI (aO.dT (aA.bM true v) o.own) (aI (.same _) bm)) (fun h=>mJ true v hE x h) (.agg _ (by intro z hz;simp only[ar.c,List.mem_cons,List.not_mem_nil,or_false]at hz;rcases hz with rfl|rfl<;>exact .int _ _)) ?_
           rw[←hy]
           simp only[EZ,ag,Nat.reduceAdd,Nat.reduceBEq,dz,bC,bB,bt,bz,bD,aF,aP,ER,EF,ar.c,cb,lE,a1,a2,a3,b1,b2,b3,c1,c2,c3,d1,d2,d3,an,ae,k0,r0,k1'])
        | (guard_target =~ ah _ _ Fn.ke [_,AV.int _ 0,AV.int _ 999999] _ _
           refine ah.val (by simp only[EO]) (dH _ _ _ _) ?_
           simp only[EZ,ag,Nat.reduceAdd,Nat.reduceBEq,dz,bC,bB,bt,bz,bD,aF,aP,ER,EF,ar.c,cb,lE,a1,a2,a3,b1,b2,b3,c1,c2,c3,d1,d2,d3,an,ae,k0,r0,k1'])
        | (guard_target =~ ah _ _ Fn.ke _ _ _
           refine ah.val (by simp only[EO]) (dH _ _ _ _) ?_
           rw[dF _ hE]
           simp only[EZ,ag,Nat.reduceAdd,Nat.reduceBEq,dz,bC,bB,bt,bz,bD,aF,aP,ER,EF,ar.c,cb,lE,a1,a2,a3,b1,b2,b3,c1,c2,c3,d1,d2,d3,an,ae,k0,r0,k1'])
        | (guard_target =~ ah _ _ Fn.vS _ _ _
           refine ah.dT (by simp only[EO,a3,b3,c3,d3]) (aI (aO.dT (aA.bM true v) o.own) (aI (.same _) bm)) (fun h=>i6 true v hL peer h) (.bool _) ?_
           simp only[EZ,ag,Nat.reduceAdd,Nat.reduceBEq,dz,bC,bB,bt,bz,bD,aF,aP,ER,EF,ar.c,cb,lE,a1,a2,a3,b1,b2,b3,c1,c2,c3,d1,d2,d3,an,ae,k0,r0,k1'])
        | exact⟨by rw[tw];rfl,by rw[tw];exact Fq.refl o⟩
        | (guard_target =~ c7 _=true;rfl)
        | refine And.intro ?_ ?_)
    · skip
      simp only[EZ,ag,Nat.reduceAdd,Nat.reduceBEq,dz,bC,bB,bt,bz,bD,aF,aP,ER,EF,ar.c,cb,lE,a1,a2,a3,b1,b2,b3,c1,c2,c3,d1,d2,d3,an,ae,k0,k1']
      repeat' (first
        | (guard_target =~ Mem _ _;first|exact Mem.loc ⟨_,([]:List (List AV))++[_,_],_⟩ _ [_]|exact Mem.loc ⟨_,([]:List (List AV))++[_,_,_],_⟩ _ [_]|exact Mem.loc ⟨_,([]:List (List AV))++[_,_,_,_],_⟩ _ [_]|exact eg.mem _ _ _)
        | (guard_target =~ fY _ _ _;first|exact eN rfl|exact g6 (L':=[_]) rfl)
        | (guard_target =~ ah _ _ Fn.vd _ _ _
           refine ah.dT (by simp only[EO,a3,b3,c3,d3]) (aI (aO.dT (aA.bM true v) o.own) (aI (.same _) bm)) (fun h=>mJ true v hE x h) (.agg _ (by intro z hz;simp only[ar.c,List.mem_cons,List.not_mem_nil,or_false]at hz;rcases hz with rfl|rfl<;>exact .int _ _)) ?_
           rw[←hy]
           simp only[EZ,ag,Nat.reduceAdd,Nat.reduceBEq,dz,bC,bB,bt,bz,bD,aF,aP,ER,EF,ar.c,cb,lE,a1,a2,a3,b1,b2,b3,c1,c2,c3,d1,d2,d3,an,ae,k0,k1'])
        | (guard_target =~ ah _ _ Fn.ke [_,AV.int _ 0,AV.int _ 999999] _ _
           refine ah.val (by simp only[EO]) (dH _ _ _ _) ?_
           simp only[EZ,ag,Nat.reduceAdd,Nat.reduceBEq,dz,bC,bB,bt,bz,bD,aF,aP,ER,EF,ar.c,cb,lE,a1,a2,a3,b1,b2,b3,c1,c2,c3,d1,d2,d3,an,ae,k0,k1'])
        | (guard_target =~ ah _ _ Fn.ke _ _ _
           refine ah.val (by simp only[EO]) (dH _ _ _ _) ?_
           rw[dF _ hE]
           simp only[EZ,ag,Nat.reduceAdd,Nat.reduceBEq,dz,bC,bB,bt,bz,bD,aF,aP,ER,EF,ar.c,cb,lE,a1,a2,a3,b1,b2,b3,c1,c2,c3,d1,d2,d3,an,ae,k0,k1'])
        | (guard_target =~ ah _ _ Fn.vS _ _ _
           refine ah.dT (by simp only[EO,a3,b3,c3,d3]) (aI (aO.dT (aA.bM true v) o.own) (aI (.same _) bm)) (fun h=>i6 true v hL peer h) (.bool _) ?_
           simp only[EZ,ag,Nat.reduceAdd,Nat.reduceBEq,dz,bC,bB,bt,bz,bD,aF,aP,ER,EF,ar.c,cb,lE,a1,a2,a3,b1,b2,b3,c1,c2,c3,d1,d2,d3,an,ae,k0,k1'])
        | exact⟨by rw[tw];rfl,by rw[tw];exact Fq.refl o⟩
        | (guard_target =~ c7 _=true;rfl)
        | refine And.intro ?_ ?_)
  have k0:decide (y.kind=0)=false:=decide_eq_false (by omega)
  have k1':decide (y.kind=1)=true:=decide_eq_true k1
  clear z0
  cases e1:dU y.n v.entities.length
  · simp only[e1,Bool.false_and,Bool.and_false,Bool.false_eq_true,if_false]at tw
    simp only[EZ,ag,Nat.reduceAdd,Nat.reduceBEq,dz,bC,bB,bt,bz,bD,aF,aP,ER,EF,ar.c,cb,lE,a1,a2,a3,b1,b2,b3,c1,c2,c3,d1,d2,d3,an,ae,k0,k1',e1]
    repeat' (first
      | (guard_target =~ Mem _ _;first|exact Mem.loc ⟨_,([]:List (List AV))++[_,_],_⟩ _ [_]|exact Mem.loc ⟨_,([]:List (List AV))++[_,_,_],_⟩ _ [_]|exact Mem.loc ⟨_,([]:List (List AV))++[_,_,_,_],_⟩ _ [_]|exact eg.mem _ _ _)
      | (guard_target =~ fY _ _ _;first|exact eN rfl|exact g6 (L':=[_]) rfl)
      | (guard_target =~ ah _ _ Fn.vd _ _ _
         refine ah.dT (by simp only[EO,a3,b3,c3,d3]) (aI (aO.dT (aA.bM true v) o.own) (aI (.same _) bm)) (fun h=>mJ true v hE x h) (.agg _ (by intro z hz;simp only[ar.c,List.mem_cons,List.not_mem_nil,or_false]at hz;rcases hz with rfl|rfl<;>exact .int _ _)) ?_
         rw[←hy]
         simp only[EZ,ag,Nat.reduceAdd,Nat.reduceBEq,dz,bC,bB,bt,bz,bD,aF,aP,ER,EF,ar.c,cb,lE,a1,a2,a3,b1,b2,b3,c1,c2,c3,d1,d2,d3,an,ae,k0,k1',e1])
      | (guard_target =~ ah _ _ Fn.ke [_,AV.int _ 0,AV.int _ 999999] _ _
         refine ah.val (by simp only[EO]) (dH _ _ _ _) ?_
         simp only[EZ,ag,Nat.reduceAdd,Nat.reduceBEq,dz,bC,bB,bt,bz,bD,aF,aP,ER,EF,ar.c,cb,lE,a1,a2,a3,b1,b2,b3,c1,c2,c3,d1,d2,d3,an,ae,k0,k1',e1])
      | (guard_target =~ ah _ _ Fn.ke _ _ _
         refine ah.val (by simp only[EO]) (dH _ _ _ _) ?_
         rw[dF _ hE]
         simp only[EZ,ag,Nat.reduceAdd,Nat.reduceBEq,dz,bC,bB,bt,bz,bD,aF,aP,ER,EF,ar.c,cb,lE,a1,a2,a3,b1,b2,b3,c1,c2,c3,d1,d2,d3,an,ae,k0,k1',e1])
      | (guard_target =~ ah _ _ Fn.vS _ _ _
         refine ah.dT (by simp only[EO,a3,b3,c3,d3]) (aI (aO.dT (aA.bM true v) o.own) (aI (.same _) bm)) (fun h=>i6 true v hL peer h) (.bool _) ?_
         simp only[EZ,ag,Nat.reduceAdd,Nat.reduceBEq,dz,bC,bB,bt,bz,bD,aF,aP,ER,EF,ar.c,cb,lE,a1,a2,a3,b1,b2,b3,c1,c2,c3,d1,d2,d3,an,ae,k0,k1',e1])
      | exact⟨by rw[tw];rfl,by rw[tw];exact Fq.refl o⟩
      | (guard_target =~ c7 _=true;rfl)
      | refine And.intro ?_ ?_)
  cases u1:ki v.aq peer
  · simp only[u1,Bool.and_false,Bool.false_eq_true,if_false]at tw
    simp only[EZ,ag,Nat.reduceAdd,Nat.reduceBEq,dz,bC,bB,bt,bz,bD,aF,aP,ER,EF,ar.c,cb,lE,a1,a2,a3,b1,b2,b3,c1,c2,c3,d1,d2,d3,an,ae,k0,k1',e1,u1]
    repeat' (first
      | (guard_target =~ Mem _ _;first|exact Mem.loc ⟨_,([]:List (List AV))++[_,_],_⟩ _ [_]|exact Mem.loc ⟨_,([]:List (List AV))++[_,_,_],_⟩ _ [_]|exact Mem.loc ⟨_,([]:List (List AV))++[_,_,_,_],_⟩ _ [_]|exact eg.mem _ _ _)
      | (guard_target =~ fY _ _ _;first|exact eN rfl|exact g6 (L':=[_]) rfl)
      | (guard_target =~ ah _ _ Fn.vd _ _ _
         refine ah.dT (by simp only[EO,a3,b3,c3,d3]) (aI (aO.dT (aA.bM true v) o.own) (aI (.same _) bm)) (fun h=>mJ true v hE x h) (.agg _ (by intro z hz;simp only[ar.c,List.mem_cons,List.not_mem_nil,or_false]at hz;rcases hz with rfl|rfl<;>exact .int _ _)) ?_
         rw[←hy]
         simp only[EZ,ag,Nat.reduceAdd,Nat.reduceBEq,dz,bC,bB,bt,bz,bD,aF,aP,ER,EF,ar.c,cb,lE,a1,a2,a3,b1,b2,b3,c1,c2,c3,d1,d2,d3,an,ae,k0,k1',e1,u1])
      | (guard_target =~ ah _ _ Fn.ke [_,AV.int _ 0,AV.int _ 999999] _ _
         refine ah.val (by simp only[EO]) (dH _ _ _ _) ?_
         simp only[EZ,ag,Nat.reduceAdd,Nat.reduceBEq,dz,bC,bB,bt,bz,bD,aF,aP,ER,EF,ar.c,cb,lE,a1,a2,a3,b1,b2,b3,c1,c2,c3,d1,d2,d3,an,ae,k0,k1',e1,u1])
      | (guard_target =~ ah _ _ Fn.ke _ _ _
         refine ah.val (by simp only[EO]) (dH _ _ _ _) ?_
         rw[dF _ hE]
         simp only[EZ,ag,Nat.reduceAdd,Nat.reduceBEq,dz,bC,bB,bt,bz,bD,aF,aP,ER,EF,ar.c,cb,lE,a1,a2,a3,b1,b2,b3,c1,c2,c3,d1,d2,d3,an,ae,k0,k1',e1,u1])
      | (guard_target =~ ah _ _ Fn.vS _ _ _
         refine ah.dT (by simp only[EO,a3,b3,c3,d3]) (aI (aO.dT (aA.bM true v) o.own) (aI (.same _) bm)) (fun h=>i6 true v hL peer h) (.bool _) ?_
         simp only[EZ,ag,Nat.reduceAdd,Nat.reduceBEq,dz,bC,bB,bt,bz,bD,aF,aP,ER,EF,ar.c,cb,lE,a1,a2,a3,b1,b2,b3,c1,c2,c3,d1,d2,d3,an,ae,k0,k1',e1,u1])
      | exact⟨by rw[tw];rfl,by rw[tw];exact Fq.refl o⟩
      | (guard_target =~ c7 _=true;rfl)
      | refine And.intro ?_ ?_)
  obtain⟨j,ej,hj⟩:=AS e1
  have e1':dU (j:Int) v.entities.length=true:=by rw[←ej];exact e1
  have hjm:j<(v.entities.map aE.cd).length:=by simpa using hj
  obtain⟨bR,gR,row,fR,iR,_,_,rR,_,oR,_,_,lR⟩:=o.oE.row o.nE hjm
  rw[List.getElem_map]at oR
  obtain⟨e,he⟩:∃e,e=v.entities[j]:=⟨_,rfl⟩
  have hge:v.entities.getD y.n.toNat default=e:=by rw[ej,Int.toNat_natCast,List.getD_eq_getElem?_getD,List.getElem?_eq_getElem hj,he];rfl
  rw[←he]at oR
  obtain⟨wS,wQ,wA,fS,fQ,fA,rfl,_,oS,oQ,oA⟩:=et oR
  obtain⟨x1,x2,x3,x4⟩:=oS.cell
  obtain⟨x5,x6,x7,x8⟩:=oQ.cell
  obtain⟨x9,xa,xb,xc⟩:=oA.cell
  simp only[k1',e1,u1,Bool.and_self,if_true,hge]at tw
  by_cases p3:(decide (e.kind=3) && decide (e.peer=peer))=true
  · simp only[p3,if_true]at tw
    obtain⟨p1,p2⟩:=Bool.and_eq_true_iff.1 p3
    simp only[EZ,ag,Nat.reduceAdd,Nat.reduceBEq,dz,bC,bB,bt,bz,bD,aF,aP,ER,EF,ar.c,cb,lE,a1,a2,a3,b1,b2,b3,c1,c2,c3,d1,d2,d3,an,ae,k0,k1',e1',u1,ej,iR,rR,x1,x2,x3,x5,x6,x7,x9,xa,xb,p1,p2]
    repeat' (first
      | (guard_target =~ Mem _ _;first|exact Mem.loc ⟨_,([]:List (List AV))++[_,_],_⟩ _ [_]|exact Mem.loc ⟨_,([]:List (List AV))++[_,_,_],_⟩ _ [_]|exact Mem.loc ⟨_,([]:List (List AV))++[_,_,_,_],_⟩ _ [_]|exact eg.mem _ _ _)
      | (guard_target =~ fY _ _ _;first|exact eN rfl|exact g6 (L':=[_]) rfl)
      | (guard_target =~ ah _ _ Fn.vd _ _ _
         refine ah.dT (by simp only[EO,a3,b3,c3,d3]) (aI (aO.dT (aA.bM true v) o.own) (aI (.same _) bm)) (fun h=>mJ true v hE x h) (.agg _ (by intro z hz;simp only[ar.c,List.mem_cons,List.not_mem_nil,or_false]at hz;rcases hz with rfl|rfl<;>exact .int _ _)) ?_
         rw[←hy]
         simp only[EZ,ag,Nat.reduceAdd,Nat.reduceBEq,dz,bC,bB,bt,bz,bD,aF,aP,ER,EF,ar.c,cb,lE,a1,a2,a3,b1,b2,b3,c1,c2,c3,d1,d2,d3,an,ae,k0,k1',e1',u1,ej,iR,rR,x1,x2,x3,x5,x6,x7,x9,xa,xb,p1,p2])
      | (guard_target =~ ah _ _ Fn.ke [_,AV.int _ 0,AV.int _ 999999] _ _
         refine ah.val (by simp only[EO]) (dH _ _ _ _) ?_
         simp only[EZ,ag,Nat.reduceAdd,Nat.reduceBEq,dz,bC,bB,bt,bz,bD,aF,aP,ER,EF,ar.c,cb,lE,a1,a2,a3,b1,b2,b3,c1,c2,c3,d1,d2,d3,an,ae,k0,k1',e1',u1,ej,iR,rR,x1,x2,x3,x5,x6,x7,x9,xa,xb,p1,p2])
      | (guard_target =~ ah _ _ Fn.ke _ _ _
         refine ah.val (by simp only[EO]) (dH _ _ _ _) ?_
         rw[dF _ hE]
         simp only[EZ,ag,Nat.reduceAdd,Nat.reduceBEq,dz,bC,bB,bt,bz,bD,aF,aP,ER,EF,ar.c,cb,lE,a1,a2,a3,b1,b2,b3,c1,c2,c3,d1,d2,d3,an,ae,k0,k1',e1',u1,ej,iR,rR,x1,x2,x3,x5,x6,x7,x9,xa,xb,p1,p2])
      | (guard_target =~ ah _ _ Fn.vS _ _ _
         refine ah.dT (by simp only[EO,a3,b3,c3,d3]) (aI (aO.dT (aA.bM true v) o.own) (aI (.same _) bm)) (fun h=>i6 true v hL peer h) (.bool _) ?_
         simp only[EZ,ag,Nat.reduceAdd,Nat.reduceBEq,dz,bC,bB,bt,bz,bD,aF,aP,ER,EF,ar.c,cb,lE,a1,a2,a3,b1,b2,b3,c1,c2,c3,d1,d2,d3,an,ae,k0,k1',e1',u1,ej,iR,rR,x1,x2,x3,x5,x6,x7,x9,xa,xb,p1,p2])
      | exact⟨by rw[tw];rfl,by rw[tw];exact Fq.refl o⟩
      | (guard_target =~ c7 _=true;rfl)
      | refine And.intro ?_ ?_)
  have p3':(decide (e.kind=3) && decide (e.peer=peer))=false:=by simpa using p3
  have z3:(decide (e.kind=3)=true∧decide (e.peer=peer)=false)∨decide (e.kind=3)=false:=by
    cases hk:decide (e.kind=3)
    · exact .inr rfl
    · rw[hk,Bool.true_and]at p3';exact .inl ⟨rfl,p3'⟩
  simp only[p3',Bool.false_eq_true,if_false,ej]at tw
  obtain⟨k,hk,ek,_⟩:=jU u1
  obtain⟨l,hl⟩:∃l,l=v.aq[k]:=⟨_,rfl⟩
  have hgl:v.aq.getD k default=l:=by rw[List.getD_eq_getElem?_getD,List.getElem?_eq_getElem hk,hl];rfl
  have ol:l.ok 1048576:=by rw[hl];exact hlk _ (List.getElem_mem hk)
  rw[ek]at tw
  simp only[Int.toNat_natCast,hgl]at tw
  have hkm:k<(v.aq.map aC.cd).length:=by simpa using hk
  obtain⟨bL,gL,pre,rowL,post,fL0,iL,mL,lL,oLr,nLr,sLr,bmL,bnL,close⟩:=o.oL.kK o.nL hkm
  rw[List.getElem_map,←hl]at oLr
  have rL:∀(e:List AV) (L:List (List AV)),(St.mk e L H).cells (.gp bL gL pre.length) 7=some rowL:=fun e L=>by rw[mL.qn e L 7 (by omega)];exact pC lL
  obtain⟨wX,wQ',wA',fX,fq,fa,rfl,_,oX,oQq,oAa⟩:=db oLr
  obtain⟨y1,y2,y3,y4⟩:=oX.cell
  obtain⟨y5,y6,y7,y8⟩:=oQq.cell
  obtain⟨y9,ya,yb,yc⟩:=oAa.cell
  have fin:∀(H4:AH) (row':List AV) (f':List Nat),aO H4 row' (df l (j:Int)).1.cd f'→f'.Nodup→(∀c∈f',H.length≤c)→bQ H H4→∃H5,(∀(e:List AV) (L:List (List AV)),(St.mk e L H4).store (.gp bL gL pre.length) row'=some ⟨e,L,H5⟩)∧
      Fq H b wE w2 wL w4 fE f2 fL f4 H5 { v with aq:=v.aq.set k (df l (j:Int)).1 }:=by
    intro H4 row' f' o' n' b' eg
    have hfL:∀c∈fL,c<H.length:=fun c hc=>vlt c (bU.2 (.inr (.inr (.inl hc))))
    have hbq:=hfL bL bmL
    have rl:row'.length=7:=by rw[o'.len];rfl
    have m4:pO H4 bL gL pre _ post:=mL.frame (eg.fr bL hbq)
    obtain⟨H5,s5,m5,l5,r5⟩:=m4.store (i:=0) (vs:=row') (by rw[rl];exact Nat.le_refl 7) o'.bo
    rw[Nat.add_zero]at s5
    have ov:∀row:List AV,row.length=7→cB row 0 row'=row':=fun row h7=>by simp[cB,rl,h7]
    rw[ov _ lL]at m5
    have lx:=eg.len
    have o5:=o'.frame (h':=H5) fun c hc=>r5 c (fun e=>by have:=b' c hc;omega)
    obtain⟨fL',oL5,nL5,mL5⟩:=close H5 _ (df l (j:Int)).1.cd f' o5 n' rfl (fun c hc=>.inr fun hm=>by have:=hfL c hm;have:=b' c hc;omega) m5 (fun c hc hcf hcb=>by rw[r5 c hcb];exact eg.fr c (hfL c hc))
    have hb5:bJ H5 b=some (0,[.int .i64 v.id,wE,w2,wL,w4]):=by
      rw[bO (r5 b (fun e=>bf (bU.2 (.inr (.inr (.inl (e▸bmL))))))),bO (eg.fr b blt)];exact hb
    have hset:(v.aq.map aC.cd).set k (df l (j:Int)).1.cd=(v.aq.set k (df l (j:Int)).1).map aC.cd:=by rw[List.map_set]
    rw[hset]at oL5
    have u:=o.Of (G:=f') hb5 oL5 nL5 (fun c hc=>by rcases mL5 c hc with g|g;exact .inl g;exact .inr (.inl g)) (fun c hc=>⟨fun hm=>by have:=vlt c hm;have:=b' c hc;omega,fun e=>by have:=b' c hc;omega⟩) (by omega)
      (fun c h1 h2 h3 h4=>by rw[r5 c (fun e=>h1 (e▸bmL)),eg.fr c h4])
    exact⟨H5,s5,fL',u,by omega,fun c g=>(mL5 c g).imp id (b' c),fun c h1 h3=>by rw[r5 c (fun e=>h1 (e▸bmL)),eg.fr c h3]⟩
  rcases z3 with⟨q1,q2⟩|q1
  · skip
    simp only[EZ,ag,Nat.reduceAdd,Nat.reduceBEq,dz,bC,bB,bt,bz,bD,aF,aP,ER,EF,ar.c,cb,lE,a1,a2,a3,b1,b2,b3,c1,c2,c3,d1,d2,d3,an,ae,k0,k1',e1',u1,ej,iR,rR,x1,x2,x3,x5,x6,x7,x9,xa,xb,q1,q2,iL,rL,ek,y1,y2,y3,y5,y6,y7,y9,ya,yb]
    repeat' (first
      | (guard_target =~ Mem _ _;first|exact Mem.loc ⟨_,([]:List (List AV))++[_,_],_⟩ _ [_]|exact Mem.loc ⟨_,([]:List (List AV))++[_,_,_],_⟩ _ [_]|exact Mem.loc ⟨_,([]:List (List AV))++[_,_,_,_],_⟩ _ [_]|exact eg.mem _ _ _)
      | (guard_target =~ fY _ _ _;first|exact eN rfl|exact g6 (L':=[_]) rfl)
      | (guard_target =~ ah _ _ Fn.vd _ _ _
         refine ah.dT (by simp only[EO,a3,b3,c3,d3]) (aI (aO.dT (aA.bM true v) o.own) (aI (.same _) bm)) (fun h=>mJ true v hE x h) (.agg _ (by intro z hz;simp only[ar.c,List.mem_cons,List.not_mem_nil,or_false]at hz;rcases hz with rfl|rfl<;>exact .int _ _)) ?_
         rw[←hy]
         simp only[EZ,ag,Nat.reduceAdd,Nat.reduceBEq,dz,bC,bB,bt,bz,bD,aF,aP,ER,EF,ar.c,cb,lE,a1,a2,a3,b1,b2,b3,c1,c2,c3,d1,d2,d3,an,ae,k0,k1',e1',u1,ej,iR,rR,x1,x2,x3,x5,x6,x7,x9,xa,xb,q1,q2,iL,rL,ek,y1,y2,y3,y5,y6,y7,y9,ya,yb])
      | (guard_target =~ ah _ _ Fn.ke [_,AV.int _ 0,AV.int _ 999999] _ _
         refine ah.val (by simp only[EO]) (dH _ _ _ _) ?_
         simp only[EZ,ag,Nat.reduceAdd,Nat.reduceBEq,dz,bC,bB,bt,bz,bD,aF,aP,ER,EF,ar.c,cb,lE,a1,a2,a3,b1,b2,b3,c1,c2,c3,d1,d2,d3,an,ae,k0,k1',e1',u1,ej,iR,rR,x1,x2,x3,x5,x6,x7,x9,xa,xb,q1,q2,iL,rL,ek,y1,y2,y3,y5,y6,y7,y9,ya,yb])
      | (guard_target =~ ah _ _ Fn.ke _ _ _
         refine ah.val (by simp only[EO]) (dH _ _ _ _) ?_
         rw[dF _ hE]
         simp only[EZ,ag,Nat.reduceAdd,Nat.reduceBEq,dz,bC,bB,bt,bz,bD,aF,aP,ER,EF,ar.c,cb,lE,a1,a2,a3,b1,b2,b3,c1,c2,c3,d1,d2,d3,an,ae,k0,k1',e1',u1,ej,iR,rR,x1,x2,x3,x5,x6,x7,x9,xa,xb,q1,q2,iL,rL,ek,y1,y2,y3,y5,y6,y7,y9,ya,yb])
      | (guard_target =~ ah _ _ Fn.vS _ _ _
         refine ah.dT (by simp only[EO,a3,b3,c3,d3]) (aI (aO.dT (aA.bM true v) o.own) (aI (.same _) bm)) (fun h=>i6 true v hL peer h) (.bool _) ?_
         simp only[EZ,ag,Nat.reduceAdd,Nat.reduceBEq,dz,bC,bB,bt,bz,bD,aF,aP,ER,EF,ar.c,cb,lE,a1,a2,a3,b1,b2,b3,c1,c2,c3,d1,d2,d3,an,ae,k0,k1',e1',u1,ej,iR,rR,x1,x2,x3,x5,x6,x7,x9,xa,xb,q1,q2,iL,rL,ek,y1,y2,y3,y5,y6,y7,y9,ya,yb])
      | (guard_target =~ ah _ _ Fn.yC _ _ _
         refine ah.dT (by simp only[EO,a3,b3,c3,d3]) (aI (aO.dT (aA.bM true v) o.own) (aI (.same _) bm)) (fun h=>lf true v hL peer h) (.int _ _) ?_
         rw[ek]
         simp only[EZ,ag,Nat.reduceAdd,Nat.reduceBEq,dz,bC,bB,bt,bz,bD,aF,aP,ER,EF,ar.c,cb,lE,a1,a2,a3,b1,b2,b3,c1,c2,c3,d1,d2,d3,an,ae,k0,k1',e1',u1,ej,iR,rR,x1,x2,x3,x5,x6,x7,x9,xa,xb,q1,q2,iL,rL,ek,y1,y2,y3,y5,y6,y7,y9,ya,yb])
      | (guard_target =~ ah _ _ Fn.N8 _ _ _
         refine ah.own (by simp only[EO,y3,y7,yb]) (aI (aO.dT (aC.bM true l) oLr) (aI (.same _) bm)) (fun h=>HN true l ol (j:Int) h) ?_
         rintro _ H4 fr
         replace fr:aS H _ _ _:=fr
         obtain⟨row',f',rfl,o',n',b',eg⟩:=fr.a2 rfl
         obtain⟨H5,s5,fu⟩:=fin H4 row' f' o' n' b' eg
         obtain⟨wX2,wQ2,wA2,_,_,_,rfl,_,oX2,oQ2,oA2⟩:=db o'
         obtain⟨z1,z2,z3,z4⟩:=oX2.cell
         obtain⟨z5,z6,z7,z8⟩:=oQ2.cell
         obtain⟨z9,za,zb,zc⟩:=oA2.cell
         have kp:∀e e' L,fY [] ⟨e,L,H⟩ ⟨e',L,H4⟩:=fun e e' L r hr=>by simp at hr
         have cb4:∀(e:List AV) (L:List (List AV)) (off n:Nat),(St.mk e L H4).cells (.gp b 0 off) n=sub [.int .i64 v.id,wE,w2,wL,w4] off n:=fun e L off n=>bk (by rw[bO (eg.fr b blt)];exact hb)
         simp only[EZ,ag,Nat.reduceAdd,Nat.reduceBEq,dz,bC,bB,bt,bz,bD,aF,aP,ER,EF,ar.c,cb,lE,a1,a2,a3,b1,b2,b3,c1,c2,c3,d1,d2,d3,an,ae,k0,k1',e1',u1,ej,iR,rR,x1,x2,x3,x5,x6,x7,x9,xa,xb,q1,q2,iL,rL,ek,y1,y2,y3,y5,y6,y7,y9,ya,yb,CD.fb,cb4,z1,z2,z3,z5,z6,z7,z9,za,zb,s5])
      | exact eg.mem _ _ _
      | exact cW (eg.mem _ _ _)
      | exact⟨by rw[tw];rfl,by rw[tw];exact fu⟩
      | (guard_target =~ c7 _=true;rfl)
      | refine And.intro ?_ ?_)
  · skip
    simp only[EZ,ag,Nat.reduceAdd,Nat.reduceBEq,dz,bC,bB,bt,bz,bD,aF,aP,ER,EF,ar.c,cb,lE,a1,a2,a3,b1,b2,b3,c1,c2,c3,d1,d2,d3,an,ae,k0,k1',e1',u1,ej,iR,rR,x1,x2,x3,x5,x6,x7,x9,xa,xb,q1,iL,rL,ek,y1,y2,y3,y5,y6,y7,y9,ya,yb]
    repeat' (first
      | (guard_target =~ Mem _ _;first|exact Mem.loc ⟨_,([]:List (List AV))++[_,_],_⟩ _ [_]|exact Mem.loc ⟨_,([]:List (List AV))++[_,_,_],_⟩ _ [_]|exact Mem.loc ⟨_,([]:List (List AV))++[_,_,_,_],_⟩ _ [_]|exact eg.mem _ _ _)
      | (guard_target =~ fY _ _ _;first|exact eN rfl|exact g6 (L':=[_]) rfl)
      | (guard_target =~ ah _ _ Fn.vd _ _ _
         refine ah.dT (by simp only[EO,a3,b3,c3,d3]) (aI (aO.dT (aA.bM true v) o.own) (aI (.same _) bm)) (fun h=>mJ true v hE x h) (.agg _ (by intro z hz;simp only[ar.c,List.mem_cons,List.not_mem_nil,or_false]at hz;rcases hz with rfl|rfl<;>exact .int _ _)) ?_
         rw[←hy]
         simp only[EZ,ag,Nat.reduceAdd,Nat.reduceBEq,dz,bC,bB,bt,bz,bD,aF,aP,ER,EF,ar.c,cb,lE,a1,a2,a3,b1,b2,b3,c1,c2,c3,d1,d2,d3,an,ae,k0,k1',e1',u1,ej,iR,rR,x1,x2,x3,x5,x6,x7,x9,xa,xb,q1,iL,rL,ek,y1,y2,y3,y5,y6,y7,y9,ya,yb])
      | (guard_target =~ ah _ _ Fn.ke [_,AV.int _ 0,AV.int _ 999999] _ _
         refine ah.val (by simp only[EO]) (dH _ _ _ _) ?_
         simp only[EZ,ag,Nat.reduceAdd,Nat.reduceBEq,dz,bC,bB,bt,bz,bD,aF,aP,ER,EF,ar.c,cb,lE,a1,a2,a3,b1,b2,b3,c1,c2,c3,d1,d2,d3,an,ae,k0,k1',e1',u1,ej,iR,rR,x1,x2,x3,x5,x6,x7,x9,xa,xb,q1,iL,rL,ek,y1,y2,y3,y5,y6,y7,y9,ya,yb])
      | (guard_target =~ ah _ _ Fn.ke _ _ _
         refine ah.val (by simp only[EO]) (dH _ _ _ _) ?_
         rw[dF _ hE]
         simp only[EZ,ag,Nat.reduceAdd,Nat.reduceBEq,dz,bC,bB,bt,bz,bD,aF,aP,ER,EF,ar.c,cb,lE,a1,a2,a3,b1,b2,b3,c1,c2,c3,d1,d2,d3,an,ae,k0,k1',e1',u1,ej,iR,rR,x1,x2,x3,x5,x6,x7,x9,xa,xb,q1,iL,rL,ek,y1,y2,y3,y5,y6,y7,y9,ya,yb])
      | (guard_target =~ ah _ _ Fn.vS _ _ _
         refine ah.dT (by simp only[EO,a3,b3,c3,d3]) (aI (aO.dT (aA.bM true v) o.own) (aI (.same _) bm)) (fun h=>i6 true v hL peer h) (.bool _) ?_
         simp only[EZ,ag,Nat.reduceAdd,Nat.reduceBEq,dz,bC,bB,bt,bz,bD,aF,aP,ER,EF,ar.c,cb,lE,a1,a2,a3,b1,b2,b3,c1,c2,c3,d1,d2,d3,an,ae,k0,k1',e1',u1,ej,iR,rR,x1,x2,x3,x5,x6,x7,x9,xa,xb,q1,iL,rL,ek,y1,y2,y3,y5,y6,y7,y9,ya,yb])
      | (guard_target =~ ah _ _ Fn.yC _ _ _
         refine ah.dT (by simp only[EO,a3,b3,c3,d3]) (aI (aO.dT (aA.bM true v) o.own) (aI (.same _) bm)) (fun h=>lf true v hL peer h) (.int _ _) ?_
         rw[ek]
         simp only[EZ,ag,Nat.reduceAdd,Nat.reduceBEq,dz,bC,bB,bt,bz,bD,aF,aP,ER,EF,ar.c,cb,lE,a1,a2,a3,b1,b2,b3,c1,c2,c3,d1,d2,d3,an,ae,k0,k1',e1',u1,ej,iR,rR,x1,x2,x3,x5,x6,x7,x9,xa,xb,q1,iL,rL,ek,y1,y2,y3,y5,y6,y7,y9,ya,yb])
      | (guard_target =~ ah _ _ Fn.N8 _ _ _
         refine ah.own (by simp only[EO,y3,y7,yb]) (aI (aO.dT (aC.bM true l) oLr) (aI (.same _) bm)) (fun h=>HN true l ol (j:Int) h) ?_
         rintro _ H4 fr
         replace fr:aS H _ _ _:=fr
         obtain⟨row',f',rfl,o',n',b',eg⟩:=fr.a2 rfl
         obtain⟨H5,s5,fu⟩:=fin H4 row' f' o' n' b' eg
         obtain⟨wX2,wQ2,wA2,_,_,_,rfl,_,oX2,oQ2,oA2⟩:=db o'
         obtain⟨z1,z2,z3,z4⟩:=oX2.cell
         obtain⟨z5,z6,z7,z8⟩:=oQ2.cell
         obtain⟨z9,za,zb,zc⟩:=oA2.cell
         have kp:∀e e' L,fY [] ⟨e,L,H⟩ ⟨e',L,H4⟩:=fun e e' L r hr=>by simp at hr
         have cb4:∀(e:List AV) (L:List (List AV)) (off n:Nat),(St.mk e L H4).cells (.gp b 0 off) n=sub [.int .i64 v.id,wE,w2,wL,w4] off n:=fun e L off n=>bk (by rw[bO (eg.fr b blt)];exact hb)
         simp only[EZ,ag,Nat.reduceAdd,Nat.reduceBEq,dz,bC,bB,bt,bz,bD,aF,aP,ER,EF,ar.c,cb,lE,a1,a2,a3,b1,b2,b3,c1,c2,c3,d1,d2,d3,an,ae,k0,k1',e1',u1,ej,iR,rR,x1,x2,x3,x5,x6,x7,x9,xa,xb,q1,iL,rL,ek,y1,y2,y3,y5,y6,y7,y9,ya,yb,CD.fb,cb4,z1,z2,z3,z5,z6,z7,z9,za,zb,s5])
      | exact eg.mem _ _ _
      | exact cW (eg.mem _ _ _)
      | exact⟨by rw[tw];rfl,by rw[tw];exact fu⟩
      | (guard_target =~ c7 _=true;rfl)
      | refine And.intro ?_ ?_)
end Go.Proofs.YtccjhmhkfnnmaaaGreat
namespace Go.Proofs.YtccjhmhkfnnmaaaGreat
open Go.AM
variable {Γ:cj}
def Fm(N:Nat)(v:aA):Prop:=∀l∈v.aq,l.ok N
theorem Fm.mono{N M:Nat}{v:aA}(h:Fm N v)(hN:N≤M):Fm M v:=fun l hl=>(h l hl).mono hN
theorem kg(l:aC)(e:Int):(df l e).1.exports.length≤l.exports.length+1∧(df l e).1.questions=l.questions∧(df l e).1.answers=l.answers:=by
  unfold df;split<;>simp
theorem IF{N:Nat}{l:aC}(h:l.ok N)(e:Int):(df l e).1.ok (N+1):=by
  obtain⟨p1,p2,p3⟩:=kg l e
  refine⟨by have:=h.1;omega,by rw[p2];have:=h.2.1;omega,by rw[p3];have:=h.2.2;omega⟩
theorem Es{N:Nat}{v:aA}(h:Fm N v)(k:Nat):(v.aq.getD k default).ok N:=by
  rw[List.getD_eq_getElem?_getD]
  cases hk:v.aq[k]? with
  | some l=>exact h l (List.mem_of_getElem? hk)
  | none=>exact⟨Nat.zero_le _,Nat.zero_le _,Nat.zero_le _⟩
theorem Am(v:aA)(peer:Int)(x:ar):(cr v peer x).1.entities=v.entities∧(cr v peer x).1.aq.length=v.aq.length:=by
  unfold cr
  split
  · exact⟨rfl,rfl⟩
  · split
    · split
      · exact⟨rfl,rfl⟩
      · exact⟨rfl,List.length_set⟩
    · exact⟨rfl,rfl⟩
theorem Da{N:Nat}{v:aA}(h:Fm N v)(peer:Int)(x:ar):Fm (N+1) (cr v peer x).1:=by
  have h1:Fm (N+1) v:=h.mono (by omega)
  unfold cr
  split
  · exact h1
  · split
    · split
      · exact h1
      · intro l hl
        rcases List.mem_or_eq_of_mem_set hl with g|g
        · exact h1 l g
        · rw[g];exact IF (Es h _) _
    · exact h1
def bu(v:aA)(peer:Int):List ar→aA×List aV
  | []=>(v,[])
  | x::l=>((bu (cr v peer x).1 peer l).1,(cr v peer x).2::(bu (cr v peer x).1 peer l).2)
theorem pX(peer:Int)(x:ar):∀(l:List ar) (v:aA),bu v peer (l++[x])=((cr (bu v peer l).1 peer x).1,(bu v peer l).2++[(cr (bu v peer l).1 peer x).2])
  | [],v=>rfl
  | y::l,v=>by simp only[List.cons_append,bu,pX peer x l]
theorem kQ(peer:Int):∀(l:List ar) (v:aA),(bu v peer l).1.entities=v.entities∧(bu v peer l).1.aq.length=v.aq.length
  | [],v=>⟨rfl,rfl⟩
  | x::l,v=>by
    have h1:=Am v peer x
    have h2:=kQ peer l (cr v peer x).1
    simp only[bu]
    exact⟨h2.1.trans h1.1,h2.2.trans h1.2⟩
theorem tq(peer:Int):∀(l:List ar) {N:Nat} {v:aA},Fm N v→Fm (N+l.length) (bu v peer l).1
  | [],_,_,h=>h
  | x::l,N,v,h=>by
    have:=tq peer l (Da h peer x)
    simp only[bu,List.length_cons]
    exact this.mono (by omega)
theorem lX(peer:Int):∀(l:List ar) (v:aA),(bu v peer l).2.length=l.length
  | [],v=>rfl
  | x::l,v=>by simp only[bu,List.length_cons,lX peer l]
set_option maxHeartbeats 4000000 in
theorem Q6(v:aA)(hE:v.entities.length≤1048576)(hL:v.aq.length≤1048576){N:Nat}(hlk:Fm N v)(peer:Int)(l:List ar)(hN:N+l.length≤1048576)(H:AH){b:Nat}{wE w2 wL w4:AV}{fE f2 fL f4:List Nat}(o:VO H b v wE w2 wL w4 fE f2 fL f4){wa:AV}{fa:List Nat}(oa:bN H wa (.sl 2 (l.map ar.cd)) fa)(na:fa.Nodup)(da:∀c∈fa,c∉fL):
    T Tryz.prog Γ Fn.U8 [.gp b 0 0,.int .i64 peer,wa] H fun r H'=>∃fL' fw,VO H' b (bu v peer l).1 wE w2 wL w4 fE f2 fL' f4∧bN H' r (.sl 2 ((bu v peer l).2.map aV.cd)) fw∧fw.Nodup∧H.length≤H'.length∧(∀c∈fL',c∈fL∨H.length≤c)∧(∀c∈fw,H.length≤c∧c∉fL')∧(∀c,c∉fL→c<H.length→H'[c]? = H[c]?):=by
  have LA:=(dE oa).2
  rw[List.length_map]at LA
  have q1:=o.lt
  have q2:=o.blt
  refine QS (aD aJ aK [] _ _ _ ?_)
  unfold KE
  simp only[EZ,ag,Nat.reduceAdd,Nat.reduceBEq,zO,EA]
  refine dD aJ aK [] (fun x:Nat×AV×AH×List Nat×List Nat×List (List AV)=>x.1≤l.length∧VO x.2.2.1 b (bu v peer (l.take x.1)).1 wE w2 wL w4 fE f2 x.2.2.2.1 f4∧bN x.2.2.1 x.2.1 (.sl 2 ((bu v peer (l.take x.1)).2.map aV.cd)) x.2.2.2.2.1∧x.2.2.2.2.1.Nodup∧H.length≤x.2.2.1.length∧(∀c∈x.2.2.2.1,c∈fL∨H.length≤c)∧(∀c∈x.2.2.2.2.1,H.length≤c∧c∉x.2.2.2.1)∧(∀c,c∉fL→c<H.length→x.2.2.1[c]? = H[c]?)) (fun x=>l.length-x.1)
    (fun x=>AJ (.gp b 0 0) (.int .i64 peer) wa x.2.1 (.int .i64 x.1) x.2.2.2.2.2 x.2.2.1) (0,.gs H.length 0 0 0 0 2 true,H++[some (0,[])],fL,[H.length],[])
    ⟨by simp,o.frame fun c hc=>List.getElem?_append_left (by rcases hc with g|g;exact q1 c g;rw[g];exact q2),dK H 2,by simp,by simp,fun c hc=>.inl hc,fun c hc=>by rw[List.mem_singleton.1 hc];exact⟨Nat.le_refl _,fun g=>by have:=q1 _ (bU.2 (.inr (.inr (.inl g))));omega⟩,fun c _ h=>List.getElem?_append_left h⟩ ⟨by simp[AJ,eP,eM],rfl,rfl⟩ ?_
  rintro⟨k,w,H1,f1,fw,M⟩ ⟨hk,ha,ho,nd,hl1,m1,mw,r1⟩
  simp only at hk ha ho nd hl1 m1 mw r1
  simp only[EZ,ag,Nat.reduceAdd,Nat.reduceBEq,zO,AJ,LA]
  refine bI (fun hlt=>?_) (fun hge=>?_)
  rotate_left
  · have hge:k=l.length:=by simp at hge;omega
    subst hge
    rw[List.take_length]at ha ho
    obtain⟨ca,cb,cc,cd⟩:=ho.cell
    simp only[EZ,ag,Nat.reduceAdd,Nat.reduceBEq,zO,ca,cb,cc]
    exact⟨ho.c7,f1,fw,ha,ho,nd,hl1,m1,mw,r1⟩
  have hlt:k<l.length:=by simpa using hlt
  have oa1:bN H1 wa (.sl 2 (l.map ar.cd)) fa:=oa.frame fun c hc=>r1 c (da c hc) (oa.lt c hc)
  obtain⟨bR,gR,row,fR,iR,_,_,rR,_,oR,_,_,lR⟩:=oa1.row na (k:=k) (by simpa using hlt)
  rw[List.getElem_map]at oR
  obtain⟨x,hx⟩:∃x,x=l[k]:=⟨_,rfl⟩
  rw[←hx]at oR
  simp only[ar.cd,gI,gD,hU]at oR
  obtain⟨_,_,_,_,rfl,rfl,⟨rfl,rfl⟩,⟨_,_,_,_,rfl,rfl,⟨rfl,rfl⟩,⟨rfl,rfl⟩⟩⟩:=oR
  have te:=kQ peer (l.take k) v
  have hk2:(l.take k).length=k:=by rw[List.length_take];exact Nat.min_eq_left hk
  have to:Fm 1048576 (bu v peer (l.take k)).1:=(tq peer (l.take k) hlk).mono (by rw[hk2];omega)
  have ts:bu v peer (l.take (k+1))=((cr (bu v peer (l.take k)).1 peer x).1,(bu v peer (l.take k)).2++[(cr (bu v peer (l.take k)).1 peer x).2]):=by
    rw[List.take_succ_eq_append_getElem hlt,←hx,pX]
  have tl:=lX peer (l.take k) v
  obtain⟨vk,hvk⟩:∃vk,vk=(bu v peer (l.take k)).1:=⟨_,rfl⟩
  obtain⟨wk,hwk⟩:∃wk,wk=(bu v peer (l.take k)).2:=⟨_,rfl⟩
  rw[←hvk]at ha te to ts
  rw[←hwk]at ho ts tl
  obtain⟨ca,cb,cc,cd⟩:=ho.cell
  simp only[EZ,ag,Nat.reduceAdd,Nat.reduceBEq,zO,iR,rR,ca,cb,cc]
  refine ah.ref (by simp only[EO]) (Jz vk (by rw[te.1];exact hE) (by rw[te.2];exact hL) to peer x H1 ha) ?_
  rintro r H2 ⟨rfl,f2',a2,l2,m2,r2⟩
  replace a2:VO H2 b _ wE w2 wL w4 fE f2 f2' f4:=a2
  replace l2:H1.length≤H2.length:=l2
  replace r2:∀c,c∉f1→c<H1.length→H2[c]? = H1[c]?:=r2
  obtain⟨y,hy⟩:∃y,y=(cr vk peer x).2:=⟨_,rfl⟩
  rw[←hy]at ts ⊢
  have o2:bN H2 w (.sl 2 (wk.map aV.cd)) fw:=ho.frame fun c hc=>r2 c (mw c hc).2 (ho.lt c hc)
  obtain⟨v',H',fp',ea,o',nd',hf',hl',hm'⟩:=dw (bytes:=16) o2 (ys:=[.int .i64 y.kind,.int .i64 y.n]) (row:=[.i .i64 y.kind,.i .i64 y.n]) (f2:=[]) (by simpa using nd) (by omega) rfl (.i (.i .nil)) (by simp only[List.length_map,aU];omega)
  simp only[EZ,ag,Nat.reduceAdd,Nat.reduceBEq,zO,EA,aV.c,ca,cb,cc,ea]
  have old:∀c∈fw,c∉gB fE f2 f2' f4∧c≠b:=fun c hw=>by
    refine⟨fun h=>?_,fun e=>by have:=(mw c hw).1;omega⟩
    rcases bU.1 h with g|g|g|g
    · have:=q1 c (bU.2 (.inl g));have:=(mw c hw).1;omega
    · have:=q1 c (bU.2 (.inr (.inl g)));have:=(mw c hw).1;omega
    · rcases m2 c g with q|q
      · exact(mw c hw).2 q
      · have:=ho.lt c hw;omega
    · have:=q1 c (bU.2 (.inr (.inr (.inr g))));have:=(mw c hw).1;omega
  have lt2:=a2.lt
  have bt2:=a2.blt
  refine⟨(k+1,v',H',f2',fp',_),⟨hlt,by
      simp only;rw[ts];exact a2.frame fun c hc=>hf' c (fun hw=>by rcases hc with g|g;exact(old c hw).1 g;exact(old c hw).2 g) (by rcases hc with g|g;exact lt2 c g;rw[g];exact bt2),by simp only;rw[ts,List.map_append];exact o',nd',by simp only;omega,fun c hc=>?_,fun c hc=>?_,fun c h1 h3=>?_⟩,by simp only;omega,⟨by rw[wN (by omega)];simp[AJ,eP,eM],rfl,rfl⟩⟩
  · rcases m2 c hc with g|g
    · exact m1 c g
    · exact .inr (by omega)
  · rcases hm' c hc with g|g|g
    · exact⟨(mw c g).1,fun h=>(old c g).1 (bU.2 (.inr (.inr (.inl h))))⟩
    · simp at g
    · exact⟨by omega,fun h=>by have:=lt2 c (bU.2 (.inr (.inr (.inl h))));omega⟩
  · simp only
    rw[hf' c (fun g=>by have:=(mw c g).1;omega) (by omega),r2 c (fun g=>by rcases m1 c g with q|q;exact h1 q;omega) (by omega),r1 c h1 h3]
end Go.Proofs.YtccjhmhkfnnmaaaGreat
namespace Go.Proofs.YtccjhmhkfnnmaaaGreat
open Go.AM
variable {Γ:cj}
def mD(v:aA)(x:ar):Bool:=decide (x.kind=1) && (dU x.n v.entities.length && tF (v.entities.getD x.n.toNat default))
theorem FG{v:aA}{x:ar}{j:Nat}(hk:x.kind=1)(hj:j<v.entities.length)(ej:x.n=(j:Int)):mD v x=tF v.entities[j]:=by
  have h1:dU (j:Int) v.entities.length=true:=by simp only[dU,Bool.and_eq_true,decide_eq_true_eq];omega
  simp only[mD,hk,decide_true,ej,h1,Bool.true_and,Int.toNat_natCast,List.getD_eq_getElem?_getD,List.getElem?_eq_getElem hj,Option.getD_some]
theorem Py(β β':Bool)(v:aA)(hE:v.entities.length≤1048576)(x:ar)(H:AH){p:AV}(hp:Ptr H p (v.c β)):T Tryz.prog Γ Fn.SZ [p,.agg (x.c β')] H fun r h'=>r=.bool (mD v x)∧h'=H:=by
  have L0:=dN β 12 false v.entities (aE.c β)
  refine RP (aD aJ aK [] _ _ _ ?_)
  unfold JQ
  by_cases k1:x.kind=1
  rotate_left
  · have e:mD v x=false:=by simp only[mD,decide_eq_false k1,Bool.false_and]
    simp only[EZ,ag,Nat.reduceAdd,Nat.reduceBEq,uR,lg,aF,ar.c,ae,decide_eq_false k1,e]
    first|exact⟨rfl,rfl⟩|exact rfl|trivial
  cases e1:dU x.n v.entities.length
  · have e:mD v x=false:=by simp only[mD,e1,Bool.false_and,Bool.and_false]
    simp only[EZ,ag,Nat.reduceAdd,Nat.reduceBEq,uR,lg,aF,ar.c,ae,decide_eq_true k1,hp.nil,hp.fld,hp.rd,aA.iZ,Nat.reduceLeDiff,aA.c,L0]
    refine ah.val (by simp only[EO]) (dH _ _ _ _) ?_
    rw[dF _ hE,e1]
    simp only[EZ,ag,Nat.reduceAdd,Nat.reduceBEq,uR,lg,aF,ar.c,e]
    first|exact⟨rfl,rfl⟩|exact rfl|trivial
  obtain⟨j,ej,hj⟩:=AS e1
  have e:=FG k1 hj ej
  have i0:=dy (β:=β) (sz:=12) (ex:=false) (ce:=aE.c β) hj
  have e1':dU (j:Int) v.entities.length=true:=by rw[←ej];exact e1
  obtain⟨en,hen⟩:∃en,en=v.entities[j]:=⟨_,rfl⟩
  rw[←hen]at i0 e
  simp only[EZ,ag,Nat.reduceAdd,Nat.reduceBEq,uR,lg,aF,ar.c,ae,decide_eq_true k1,hp.nil,hp.fld,hp.rd,aA.iZ,Nat.reduceLeDiff,aA.c,L0,ej]
  refine ah.val (by simp only[EO]) (dH _ _ _ _) ?_
  rw[dF _ hE,e1']
  simp only[EZ,ag,Nat.reduceAdd,Nat.reduceBEq,uR,lg,aF,aP,ar.c,ae,hp.nil,hp.fld,hp.rd,aA.iZ,Nat.reduceLeDiff,aA.c,L0,ej,i0,aE.c]
  refine ah.val (by simp only[EO]) (Gd β en _) ?_
  simp only[EZ,ag,Nat.reduceAdd,Nat.reduceBEq,uR,lg,e]
  first|exact⟨rfl,rfl⟩|exact rfl|trivial
end Go.Proofs.YtccjhmhkfnnmaaaGreat
