import Derived.Test.YtccjhmhkfnnmaaaGreatR6G26
import Derived.Test.YtccjhmhkfnnmaaaGreatAmG9
set_option linter.unusedVariables false
set_option linter.unusedSimpArgs false
namespace Go.Proofs.YtccjhmhkfnnmaaaGreat
open Go.AM
variable {Γ:cj}
set_option maxHeartbeats 8000000 in
set_option maxRecDepth 100000 in
theorem xk(bs:List Int)(hbs:bs.length≤1073741824)(h:AH):T Tryz.prog Γ Fn.VN [.vs false 1 false (bs.map fun n=>[.int .u8 n])] h fun r h'=>(∃(v:aA) (l:List au) (p q s n:Int),r=.tup [.agg (v.c false),.vs false 4 false (l.map (au.c false)),.int .i64 p,.int .i64 q,.int .i64 s,.int .i64 n]∧GI 93 v∧l.length≤5)∧h'=h:=by
  refine(T.Oz (R:=fun rs=>∃(v:aA) (l:List au) (p q s n:Int),rs=[.a v.cd,.c (.sl 4 (l.map au.cd)),.c (.i .i64 p),.c (.i .i64 q),.c (.i .i64 s),.c (.i .i64 n)]∧GI 93 v∧l.length≤5) ?_).mono ?_
  rotate_left
  · rintro r h' ⟨⟨rs,⟨v,l,p,q,s,n,rfl,hg,hl⟩,rfl⟩,rfl⟩
    refine⟨⟨v,l,p,q,s,n,?_,hg,hl⟩,rfl⟩
    simp only[List.map_cons,List.map_nil,i9,vN,vK,CD.fb,CD.gx,aA.bM,List.map_map,Function.comp_def,au.bM]
  refine Rm (aD aJ aK [] _ _ _ ?_)
  unfold K7
  simp only[EZ,ag,Nat.reduceAdd,Nat.reduceBEq,rC,jE,aF,aP,ER,EF,EA,ae,an]
  refine ah.ref (by simp only[EO]) (Gy bs hbs _) ?_
  rintro _ H1 ⟨b,rfl,hc,e1,hbh⟩
  replace e1:bQ h H1:=e1
  replace hbh:h.length≤b:=hbh
  have hbl:b<H1.length:=by obtain⟨_,_,_,hg⟩:=hc;exact c5 hg
  simp only[EZ,ag,Nat.reduceAdd,Nat.reduceBEq,rC,jE,aF,aP,ER,EF,EA,ae,an]
  refine ah.ref (by simp only[EO]) (TL H1 hbs hc) ?_
  rintro _ H2 ⟨v,wE,w2,wL,w4,f,rfl,g,x2⟩
  replace x2:VC H1 H2 b bs v wE w2 wL w4 f:=x2
  obtain⟨⟨a1,a2,a3,a4⟩,⟨b1,b2,b3,b4⟩,⟨c1,c2,c3,c4⟩,⟨d1,d2,d3,d4⟩,lE⟩:=x2.cell
  simp only[EZ,ag,Nat.reduceAdd,Nat.reduceBEq,rC,jE,aF,aP,ER,EF,EA,ae,an,a1,a2,a3,b1,b2,b3,c1,c2,c3,d1,d2,d3]
  refine ah.ref (by simp only[EO]) (Fv H2 hbs x2.dr.cur) ?_
  rintro w H3 ⟨l,fp,o3,nd3,bw3,hl,q3⟩
  replace q3:aR H2 H3 b bs:=q3
  replace o3:bN H3 w _ fp:=o3
  have x3:=x2.draw q3
  have h2L:=x2.dr.len
  have bfp:∀{H4:AH},aR H3 H4 b bs→bN H4 w (.sl 4 (l.map au.cd)) fp:=fun q=>q.own o3 (fun h=>by have:=bw3 b h;omega)
  obtain⟨w1,w2',w3,w4'⟩:=o3.cell
  have d3':aR H3 H3 b bs:=⟨q3.cur,Nat.le_refl _,fun _ _ _=>rfl⟩
  simp only[EZ,ag,Nat.reduceAdd,Nat.reduceBEq,rC,jE,aF,aP,ER,EF,EA,ae,an,a1,a2,a3,b1,b2,b3,c1,c2,c3,d1,d2,d3,w1,w2',w3]
  refine ah.ref (by simp only[EO]) (KR _ hbs d3'.cur) ?_
  rintro _ H4 ⟨p,rfl,q⟩
  replace q:aR H3 H4 b bs:=q
  have d4':=d3'.trans q
  clear q
  simp only[EZ,ag,Nat.reduceAdd,Nat.reduceBEq,rC,jE,aF,aP,ER,EF,EA,ae,an,a1,a2,a3,b1,b2,b3,c1,c2,c3,d1,d2,d3,w1,w2',w3]
  refine ah.ref (by simp only[EO]) (aW _ hbs d4'.cur _) ?_
  rintro _ H5 ⟨po,rfl,_,_,q⟩
  replace q:aR H4 H5 b bs:=q
  have d5':=d4'.trans q
  clear q
  simp only[EZ,ag,Nat.reduceAdd,Nat.reduceBEq,rC,jE,aF,aP,ER,EF,EA,ae,an,a1,a2,a3,b1,b2,b3,c1,c2,c3,d1,d2,d3,w1,w2',w3]
  refine ah.ref (by simp only[EO]) (KR _ hbs d5'.cur) ?_
  rintro _ H6 ⟨s,rfl,q⟩
  replace q:aR H5 H6 b bs:=q
  have d6':=d5'.trans q
  clear q
  simp only[EZ,ag,Nat.reduceAdd,Nat.reduceBEq,rC,jE,aF,aP,ER,EF,EA,ae,an,a1,a2,a3,b1,b2,b3,c1,c2,c3,d1,d2,d3,w1,w2',w3]
  refine ah.ref (by simp only[EO]) (aW _ hbs d6'.cur _) ?_
  rintro _ H7 ⟨n,rfl,_,_,q⟩
  replace q:aR H6 H7 b bs:=q
  have d7':=d6'.trans q
  clear q
  refine⟨eN rfl,?_⟩
  have x7:=x3.draw d7'
  have o7:=bfp d7'
  have he1:=e1.len
  have st0:∀(e:List AV) (h:AH),(St.mk e (LL z5 [.int .i64 v.id,wE,w2,wL,w4] []) h).store (.lp (([]:List (List AV)).length) 0) [.int .i64 v.id,wE,w2,wL,w4]=some ⟨e,LL [.int .i64 v.id,wE,w2,wL,w4] [.int .i64 v.id,wE,w2,wL,w4] [],h⟩:=fun e h=>tG (by simp) (by simp only[List.all_cons,List.all_nil,a2,b2,c2,d2];rfl)
  have FIN:∃vs rs fp,(AV.tup [.agg [.int .i64 v.id,wE,w2,wL,w4],w,.int .i64 p,.int .i64 (IntKind.i64.wrap (1+po)),.int .i64 s,.int .i64 (IntKind.i64.wrap (1+n))]:AV)=i9 vs∧gb H7 vs rs fp∧(∀c∈fp,h.length≤c)∧bQ h H7∧∃(v:aA) (l:List au) (p q s n:Int),rs=[.a v.cd,.c (.sl 4 (l.map au.cd)),.c (.i .i64 p),.c (.i .i64 q),.c (.i .i64 s),.c (.i .i64 n)]∧GI 93 v∧l.length≤5:=by
    refine⟨[.agg [.int .i64 v.id,wE,w2,wL,w4],w,.int .i64 p,.int .i64 _,.int .i64 s,.int .i64 _],[.a v.cd,.c (.sl 4 (l.map au.cd)),.c (.i .i64 p),.c (.i .i64 _),.c (.i .i64 s),.c (.i .i64 _)],f++(fp++[]),rfl,⟨f,fp++[],rfl,⟨_,rfl,x7.own⟩,fp,[],rfl,o7,[],[],by simp,.i _ _,[],[],by simp,.i _ _,[],[],by simp,.i _ _,[],[],by simp,.i _ _,rfl⟩,fun c hc=>?_,⟨by have:=x7.dr.len;omega,fun c hc=>by rw[x7.dr.fr c (by omega) (by omega),e1.fr c hc]⟩,v,l,p,_,s,_,rfl,g,hl⟩
    simp only[List.append_nil]at hc
    rcases List.mem_append.1 hc with q|q
    · have:=(x7.bf c q).1;omega
    · have:=bw3 c q;omega
  simp only[EZ,ag,Nat.reduceAdd,Nat.reduceBEq,rC,jE,aF,aP,ER,EF,EA,ae,an,a1,a2,a3,b1,b2,b3,c1,c2,c3,d1,d2,d3,w1,w2',w3,cg,aY,st0]
  first|exact⟨by simp only[List.all_cons,List.all_nil,EO,a3,a4,b3,b4,c3,c4,d3,d4,w3,w4'],FIN⟩|exact FIN
theorem ug:∀(m pre:List eu) (z:eu),iA pre (m++[z])=true→(pre++m).any z.same=false
  | [],pre,z,h=>by
    simp only[List.nil_append,iA,Bool.and_eq_true,Bool.not_eq_true']at h
    simpa using h.2.1
  | y::m,pre,z,h=>by
    simp only[List.cons_append,iA,Bool.and_eq_true]at h
    have:=ug m (pre++[y]) z h.2.2
    simpa using this
theorem ux{l:List au}{x:au}(h:jG (l++[x])=true):∀y∈l,(y.nonce == x.nonce && y.giver == x.giver)=false:=by
  simp only[jG,km,List.map_append,List.map_cons,List.map_nil,Bool.and_eq_true]at h
  have h1:=ug _ _ _ h.1
  rw[List.nil_append,List.any_map,List.any_eq_false]at h1
  intro y hy
  have:=h1 y hy
  simpa[eu.same,OF]using this
theorem Co{l:List au}{x:au}(h:jG (l++[x])=true){t:Int}(ht:t≠x.taker):dO (l++[x]) t x.giver x.nonce=(l++[x],-1,false):=by
  refine vB (kh fun i hi=>?_)
  have hm:=List.getElem_mem hi
  rcases List.mem_append.1 hm with g|g
  · have:=ux h _ g
    revert this
    simp only[gC]
    cases((l++[x])[i].giver == x.giver)<;>cases((l++[x])[i].nonce == x.nonce)<;>simp
  · rw[List.mem_singleton.1 g]
    simp only[gC,beq_self_eq_true,Bool.true_and]
    simpa using fun e:x.taker=t=>ht e.symm
theorem wC{l:List au}{x:au}(h:jG (l++[x])=true):dO (l++[x]) x.taker x.giver x.nonce=(l,x.entity,true):=by
  have hk:l.length<(l++[x]).length:=by simp
  have e:(l++[x])[l.length]=x:=by simp
  have:=BT (l:=l++[x]) (ta:=x.taker) (gi:=x.giver) (no:=x.nonce) hk (kJ hk (fun i hi hik=>?_) (by rw[e];simp[gC]))
  · rw[this,e]
    congr 1
    rw[List.eraseIdx_append_of_length_le (Nat.le_refl _),Nat.sub_self]
    simp
  · have:=ux h (l++[x])[i] (by rw[List.getElem_append_left hik];exact List.getElem_mem _)
    revert this
    simp only[gC]
    cases((l++[x])[i].giver == x.giver)<;>cases((l++[x])[i].nonce == x.nonce)<;>simp
theorem Cf{l:List au}{x:au}(h:jG (l++[x])=true):dO l x.taker x.giver x.nonce=(l,-1,false):=by
  refine vB (kh fun i hi=>?_)
  have:=ux h _ (List.getElem_mem hi)
  revert this
  simp only[gC]
  cases(l[i].giver == x.giver)<;>cases(l[i].nonce == x.nonce)<;>simp
theorem E9{l:List au}{vat:Int}:∀y∈jZ l vat,y.taker≠vat∧y.giver≠vat:=fun y hy=>by
  have:=(List.mem_filter.1 hy).2
  simp only[qh,Bool.not_eq_true',Bool.or_eq_false_iff,beq_eq_false_iff_ne]at this
  exact⟨this.2,this.1⟩
theorem Cn{K:Nat}(hK:K≤999){v:aA}(g:GI K v){l:List au}{gi po ta no:Int}(hd:(i7 v l gi po ta no).2=true):
    ∃(k k2:Nat) (hk:k<v.aq.length) (hk2:k2<v.aq.length) (e:Int),dI (fun x:aC=>x.peer == gi) v.aq=(k:Int)∧dI (fun x:aC=>x.peer == ta) v.aq=(k2:Int)∧dq v.aq[k].exports po=e∧sI v (i7 v l gi po ta no).1 ta gi no=({ v with aq:=v.aq.set k2 (df v.aq[k2] e).1 },l,(df v.aq[k2] e).2)∧1≤(df v.aq[k2] e).2∧dq (df v.aq[k2] e).1.exports (df v.aq[k2] e).2=e∧
      dI (fun x:aC=>x.peer == ta) (v.aq.set k2 (df v.aq[k2] e).1)=(k2:Int):=by
  have hup:ki v.aq gi=true∧ki v.aq ta=true:=by
    cases h1:ki v.aq gi
    · rw[su (.inl h1)]at hd;cases hd
    cases h2:ki v.aq ta
    · rw[su (.inr h2)]at hd;cases hd
    exact⟨rfl,rfl⟩
  obtain⟨k,hk,ek,ef⟩:=jU hup.1
  obtain⟨k2,hk2,ek2,ef2⟩:=jU hup.2
  have ed:=Cu (l:=l) (po:=po) (no:=no) hup.1 hup.2 hk ef
  obtain⟨e,he⟩:∃e,e=dq v.aq[k].exports po:=⟨_,rfl⟩
  rw[←he]at ed
  have ne:¬e<0:=fun h=>by rw[if_pos h]at ed;rw[ed]at hd;cases hd
  rw[if_neg ne]at ed
  have ha:jG (l++[⟨no,gi,ta,e⟩])=true:=by
    rw[ed,gr]at hd
    split at hd
    · rename_i h;exact h
    · cases hd
  have ed2:i7 v l gi po ta no=(l++[⟨no,gi,ta,e⟩],true):=by rw[ed,gr,if_pos ha]
  have co:=wC ha
  simp only at co
  have hp:=Dr (l:=l++[⟨no,gi,ta,e⟩]) (gi:=gi) (no:=no) hup.2 (by rw[co]) hk2 ek2
  rw[co]at hp
  have li:=g.lb.Nn v.aq[k2] (List.getElem_mem hk2)
  obtain⟨j,hj,p1,p2,p3,_⟩:=T9 li (by omega) e
  have lp:=li.put (by omega) e
  have pk:=G8 lp hj
  rw[p2,p3]at pk
  have pe:=(lp.ex _ (List.getElem_mem hj)).1
  rw[p2]at pe
  have peer:(df v.aq[k2] e).1.peer=v.aq[k2].peer:=by
    rcases eQ (fun x:aM=>x.entity == e) v.aq[k2].exports with⟨i,hi,e1,_,_⟩|⟨e1,_,_⟩
    · rw[rg hi e1]
    · rw[nH e1]
  refine⟨k,k2,hk,hk2,e,ek,ek2,he.symm,by rw[ed2];exact hp,pe,pk,?_⟩
  have hk3:k2<(v.aq.set k2 (df v.aq[k2] e).1).length:=by simpa using hk2
  have h2:(v.aq[k2].peer == ta)=true:=by
    have:=List.find?_some ef2
    exact this
  refine kJ hk3 (fun i hi hik=>?_) (by rw[List.getElem_set_self,peer];exact h2)
  rw[List.getElem_set_ne (by omega)]
  exact tC ek2 i (by simpa using hi) hik
end Go.Proofs.YtccjhmhkfnnmaaaGreat
namespace Go.Proofs.YtccjhmhkfnnmaaaGreat
open Go.AM
variable {Γ:cj}
theorem Ru(bs:List Int)(h:AH):T Tryz.prog Γ Fn.Vm [.vs false 1 false (bs.map fun n=>[.int .u8 n])] h fun v h'=>v=.bool (decide (1048576<(bs.length:Int)))∧h'=h:=by
  have L0:=dN false 1 false bs (fun n=>[AV.int .u8 n])
  refine TE (aD aJ aK [] _ _ _ ?_)
  unfold Lw
  simp only[EZ,ag,Nat.reduceAdd,Nat.reduceBEq,Km,L0]
  first|exact⟨rfl,rfl⟩|exact rfl
theorem E3(l:List au)(hl:l.length≤1048576)(x:au)(h:AH):T Tryz.prog Γ Fn.Tv [.vs false 4 false (l.map (au.c false)),.agg (x.c false)] h fun r h'=>r=.tup [.vs false 4 false ((gr l x).1.map (au.c false)),.bool (gr l x).2]∧h'=h:=by
  have:=(Kz (Γ:=Γ) false false l hl x h).frozen
  simpa only[List.map_cons,List.map_nil,lZ,my,vN,vK,CD.fb,CD.fc,CD.gx,List.map_map,Function.comp_def,au.bM]using this
theorem EM(l:List au)(hl:l.length≤1048576)(x:au)(h:AH):T Tryz.prog Γ Fn.OL [.vs false 4 false (l.map (au.c false)),.agg (x.c false)] h fun r h'=>r=.tup [.vs false 4 false ((gr l x).1.map (au.c false)),.bool (gr l x).2]∧h'=h:=by
  have:=(Ih (Γ:=Γ) false false l hl x h).frozen
  simpa only[List.map_cons,List.map_nil,lZ,my,vN,vK,CD.fb,CD.fc,CD.gx,List.map_map,Function.comp_def,au.bM]using this
theorem oc(l:List au)(hl:l.length≤1048576)(ta gi no:Int)(h:AH):T Tryz.prog Γ Fn.Ou [.vs false 4 false (l.map (au.c false)),.int .i64 ta,.int .i64 gi,.int .i64 no] h fun r h'=>r=.tup [.vs false 4 false ((dO l ta gi no).1.map (au.c false)),.int .i64 (dO l ta gi no).2.1,.bool (dO l ta gi no).2.2]∧h'=h:=by
  have:=(K8 (Γ:=Γ) false l hl ta gi no h).frozen
  simpa only[List.map_cons,List.map_nil,lZ,my,DO,vN,vK,CD.fb,CD.fc,CD.gx,List.map_map,Function.comp_def,au.bM]using this
theorem CI(l:List au)(hl:l.length≤1048576)(vat:Int)(h:AH):T Tryz.prog Γ Fn.Vk [.vs false 4 false (l.map (au.c false)),.int .i64 vat] h fun r h'=>r=.vs false 4 false ((jZ l vat).map (au.c false))∧h'=h:=by
  have:=(UL (Γ:=Γ) false l hl vat h).frozen
  simpa only[List.map_cons,List.map_nil,lZ,my,vN,vK,CD.fb,CD.fc,CD.gx,List.map_map,Function.comp_def,au.bM]using this
theorem wh(v:aA)(l:List au)(hv:v.ok 1048576)(hl:l.length≤1048576)(gi po ta no:Int)(h:AH):T Tryz.prog Γ Fn.UW [.agg (v.c false),.vs false 4 false (l.map (au.c false)),.int .i64 gi,.int .i64 po,.int .i64 ta,.int .i64 no] h fun r h'=>r=.tup [.vs false 4 false ((i7 v l gi po ta no).1.map (au.c false)),.bool (i7 v l gi po ta no).2]∧h'=h:=by
  have:=(Tx (Γ:=Γ) false v l hv hl gi po ta no h).frozen
  simpa only[List.map_cons,List.map_nil,lZ,my,vN,vK,CD.fb,CD.fc,CD.gx,List.map_map,Function.comp_def,au.bM]using this
theorem ph(v:aA)(l:List au)(hv:v.ok 1048576)(hl:l.length≤1048576)(gi po ta no:Int)(h:AH):T Tryz.prog Γ Fn.U4 [.agg (v.c false),.vs false 4 false (l.map (au.c false)),.int .i64 gi,.int .i64 po,.int .i64 ta,.int .i64 no] h fun r h'=>r=.tup [.vs false 4 false ((i7 v l gi po ta no).1.map (au.c false)),.bool (i7 v l gi po ta no).2]∧h'=h:=by
  have:=(Uy (Γ:=Γ) false v l hv hl gi po ta no h).frozen
  simpa only[List.map_cons,List.map_nil,lZ,my,vN,vK,CD.fb,CD.fc,CD.gx,List.map_map,Function.comp_def,au.bM]using this
theorem zF(v:aA)(l:List au)(hv:v.ok 1048576)(hl:l.length≤1048576)(ta gi no:Int)(h:AH):T Tryz.prog Γ Fn.UR [.agg (v.c false),.vs false 4 false (l.map (au.c false)),.int .i64 ta,.int .i64 gi,.int .i64 no] h fun r h'=>r=.tup [.agg ((sI v l ta gi no).1.c false),.vs false 4 false ((sI v l ta gi no).2.1.map (au.c false)),.int .i64 (sI v l ta gi no).2.2]∧h'=h:=by
  have:=(Tg (Γ:=Γ) false v l hv hl ta gi no h).frozen
  simpa only[List.map_cons,List.map_nil,lZ,my,DO,vN,vK,CD.fb,CD.fc,CD.gx,aA.bM,List.map_map,Function.comp_def,au.bM]using this
theorem oG(l:List au)(hl:l.length≤1048576)(h:AH):T Tryz.prog Γ Fn.Wf [.vs false 4 false (l.map (au.c false))] h fun r h'=>r=.bool (jG l)∧h'=h:=by
  refine Q5 (aD aJ aK [] _ _ _ ?_)
  unfold Np
  simp only[EZ,ag,Nat.reduceAdd,Nat.reduceBEq,He]
  refine ah.val (by simp only[EO]) (HY false l (by omega) h) ?_
  simp only[EZ,ag,Nat.reduceAdd,Nat.reduceBEq,He]
  first|exact⟨rfl,rfl⟩|rfl|trivial|exact⟨Iu _,rfl⟩
set_option maxHeartbeats 16000000 in
set_option maxRecDepth 100000 in
theorem Cb(bs:List Int)(hb:bs.length≤maxLen)(hr:∀x∈bs,0≤x∧x<256)(h:AH):T Tryz.prog Γ Fn.VY [.vs false 1 false (bs.map fun n=>[.int .u8 n])] h fun v h'=>v=.bool true∧h'=h:=by
  refine(?_:T Tryz.prog Γ Fn.VY _ h fun v h'=>v=.bool true∧∃N,h'=h++N).drop (by rintro v h' ⟨rfl,N,rfl⟩;exact⟨N,rfl,.bool _,rfl,rfl⟩)
  refine Se (aD aJ aK [] _ _ _ ?_)
  unfold Kv
  simp only[EZ,ag,Nat.reduceAdd,Nat.reduceBEq,dc,bd,bj,bh]
  refine ah.val (by simp only[EO]) (Ru bs _) ?_
  by_cases nb:1048576<(bs.length:Int)
  · simp only[EZ,ag,Nat.reduceAdd,Nat.reduceBEq,dc,bd,bj,bh,decide_eq_true nb]
    first|exact⟨rfl,rfl,[],by simp⟩|exact⟨rfl,[],by simp⟩
  simp only[EZ,ag,Nat.reduceAdd,Nat.reduceBEq,dc,bd,bj,bh,decide_eq_false nb]
  refine ah.ref (by simp only[EO]) (E1 bs (by omega) _) ?_
  rintro _ H ⟨⟨l,x,rfl,hl⟩,he⟩
  replace he:H=h:=he
  subst he
  simp only[EZ,ag,Nat.reduceAdd,Nat.reduceBEq,dc,bd,bj,bh,aF,aP,ER,EF,au.c,an,ae,dt]
  refine ah.val (by simp only[EO]) (E3 l (by omega) x _) ?_
  simp only[EZ,ag,Nat.reduceAdd,Nat.reduceBEq,dc,bd,bj,bh,aF,aP,ER,EF,au.c,an,ae,dt]
  refine ah.val (by simp only[EO]) (EM l (by omega) x _) ?_
  obtain⟨Y,hY⟩:∃Y,Y=(gr l x).1:=⟨_,rfl⟩
  obtain⟨ok,hok⟩:∃ok,ok=(gr l x).2:=⟨_,rfl⟩
  rw[←hY,←hok]
  have LY:=dN false 4 false Y (au.c false)
  have Ll:=dN false 4 false l (au.c false)
  have nbf:dY .neq .bool (.bool false) (.bool false)=some (.bool false):=rfl
  have nbt:dY .neq .bool (.bool true) (.bool true)=some (.bool false):=rfl
  have ebf:dY .eql .bool (.bool false) (.bool false)=some (.bool true):=rfl
  have ebt:dY .eql .bool (.bool true) (.bool true)=some (.bool true):=rfl
  have eb:∀a,dY .eql .bool (.bool a) (.bool a)=some (.bool true):=fun a=>by cases a<;>rfl
  have ex4:∀(s:St) (a b c d v:AV) (vs:List AV),s6 s 4 (.tup (a::b::c::d::v::vs))=.val v s:=fun _ _ _ _ _ _ _=>rfl
  have ex5:∀(s:St) (a b c d f v:AV) (vs:List AV),s6 s 5 (.tup (a::b::c::d::f::v::vs))=.val v s:=fun _ _ _ _ _ _ _ _=>rfl
  cases ok
  · have e:Y=l:=by
      rw[hY]
      unfold gr at hok ⊢
      split at hok
      · cases hok
      · rename_i h;rw[if_neg h]
    subst e
    simp only[EZ,ag,Nat.reduceAdd,Nat.reduceBEq,dc,bd,bj,bh,aF,aP,ER,EF,au.c,an,ae,dt,nbf,nbt,ebf,ebt,decide_true,LY,decide_eq_true (rfl:(Y.length:Int)=Y.length)]
    refine ah.ref (by simp only[EO]) (xk bs (by omega) _) ?_
    rintro _ HA ⟨⟨v,l2,gi,po,ta,no,rfl,g,hl2⟩,he⟩
    replace he:HA=H:=he
    subst he
    have gw:=g.w
    have okv:v.ok 1048576:=g.vi.MN.mono (by omega)
    have hvl:v.aq.length≤1048576:=okv.2.2.2.2.1
    simp only[EZ,ag,Nat.reduceAdd,Nat.reduceBEq,dc,bd,bj,bh,aF,aP,ER,EF,au.c,an,ae,dt,nbf,nbt,ebf,ebt,decide_true,ex4,ex5,aA.c,aC.c,cg,aY]
    refine ah.val (by simp only[EO,aA.e9]) (wh v l2 okv (by omega) gi po ta no _) ?_
    have LAST:∀d:Bool,d=(i7 v l2 gi po ta no).2→dY .eql .bool (.bool d) (.bool (i7 v l2 gi po ta no).2)=some (.bool true):=fun d e=>by rw[←e];cases d<;>rfl
    cases hd:(i7 v l2 gi po ta no).2
    · simp only[EZ,ag,Nat.reduceAdd,Nat.reduceBEq,dc,bd,bj,bh,aF,aP,ER,EF,au.c,an,ae,dt,nbf,nbt,ebf,ebt,decide_true,ex4,ex5,aA.c,aC.c,cg,aY]
      refine ah.ref (by simp only[EO]) (oO bs (by omega) _) ?_
      rintro _ HB ⟨⟨l3,rfl,hl3⟩,he⟩
      replace he:HB=HA:=he
      subst he
      simp only[EZ,ag,Nat.reduceAdd,Nat.reduceBEq,dc,bd,bj,bh,aF,aP,ER,EF,au.c,an,ae,dt,nbf,nbt,ebf,ebt,decide_true,ex4,ex5,aA.c,aC.c,cg,aY]
      refine ah.val (by simp only[EO,aA.e9]) (ph v l2 okv (by omega) gi po ta no _) ?_
      rw[hd]
      simp only[EZ,ag,Nat.reduceAdd,Nat.reduceBEq,dc,bd,bj,bh,aF,aP,ER,EF,au.c,an,ae,dt,nbf,nbt,ebf,ebt,decide_true,ex4,ex5,aA.c,aC.c,cg,aY]
      refine ah.val (by simp only[EO]) (oG l3 (by omega) _) ?_
      simp only[EZ,ag,Nat.reduceAdd,Nat.reduceBEq,dc,bd,bj,bh,aF,aP,ER,EF,au.c,an,ae,dt,nbf,nbt,ebf,ebt,decide_true,ex4,ex5,aA.c,aC.c,cg,aY]
      refine ah.val (by simp only[EO]) (tj false l3 (by omega) _) ?_
      simp only[EZ,ag,Nat.reduceAdd,Nat.reduceBEq,dc,bd,bj,bh,aF,aP,ER,EF,au.c,an,ae,dt,nbf,nbt,ebf,ebt,decide_true,ex4,ex5,aA.c,aC.c,cg,aY,eb]
      first|exact⟨rfl,rfl,[],by simp⟩|exact⟨rfl,[],by simp⟩|trace_state
    have dl:=BE v l2 gi po ta no
    obtain⟨k,k2,hk,hk2,e0,ek,ek2,ee,ea,ep,ex0,ek3⟩:=Cn (K:=93) (by omega) g hd
    simp only[EZ,ag,Nat.reduceAdd,Nat.reduceBEq,dc,bd,bj,bh,aF,aP,ER,EF,au.c,an,ae,dt,nbf,nbt,ebf,ebt,decide_true,ex4,ex5,aA.c,aC.c,cg,aY]
    refine ah.val (by simp only[EO,aA.e9]) (zF v (i7 v l2 gi po ta no).1 okv (by omega) ta gi no _) ?_
    rw[ea]
    obtain⟨lk',hlk'⟩:∃lk',lk'=(df v.aq[k2] e0).1:=⟨_,rfl⟩
    obtain⟨at',hat'⟩:∃at',at'=(df v.aq[k2] e0).2:=⟨_,rfl⟩
    rw[←hlk',←hat']at ex0
    rw[←hlk']at ek3
    rw[←hat']at ep
    rw[←hlk',←hat']
    have i0:=dy (β:=false) (sz:=7) (ex:=false) (ce:=aC.c false) hk
    have hk3:k2<(v.aq.set k2 lk').length:=by simpa using hk2
    have i1:=dy (β:=false) (sz:=7) (ex:=false) (ce:=aC.c false) hk3
    rw[List.getElem_set_self]at i1
    have hx0:v.aq[k].exports.length≤1048576:=(okv.2.2.2.2.2.1 _ (List.getElem_mem hk)).1
    have hx1:lk'.exports.length≤1048576:=by
      have h1:=(kg v.aq[k2] e0).1
      have h2:=(g.vi.Ff.mono (show wV v+100≤1000000 by omega) _ (List.getElem_mem hk2)).1
      rw[hlk'];omega
    simp only[EZ,ag,Nat.reduceAdd,Nat.reduceBEq,dc,bd,bj,bh,aF,aP,ER,EF,au.c,an,ae,dt,nbf,nbt,ebf,ebt,decide_true,ex4,ex5,aA.c,aC.c,cg,aY]
    refine ah.val (by simp only[EO,aA.e9]) (lf false v hvl gi _) ?_
    rw[ek]
    simp only[EZ,ag,Nat.reduceAdd,Nat.reduceBEq,dc,bd,bj,bh,aF,aP,ER,EF,au.c,an,ae,dt,nbf,nbt,ebf,ebt,decide_true,ex4,ex5,aA.c,aC.c,cg,aY,i0]
    refine ah.val (by simp only[EO]) (tr false v.aq[k] hx0 po _) ?_
    rw[ee]
    simp only[EZ,ag,Nat.reduceAdd,Nat.reduceBEq,dc,bd,bj,bh,aF,aP,ER,EF,au.c,an,ae,dt,nbf,nbt,ebf,ebt,decide_true,ex4,ex5,aA.c,aC.c,cg,aY,show decide (at'<1)=false from decide_eq_false (by omega)]
    refine ah.val (by simp only[EO,aA.e9]) (lf false { v with aq:=v.aq.set k2 lk' } (by simpa using hvl) ta _) ?_
    rw[ek3]
    simp only[EZ,ag,Nat.reduceAdd,Nat.reduceBEq,dc,bd,bj,bh,aF,aP,ER,EF,au.c,an,ae,dt,nbf,nbt,ebf,ebt,decide_true,ex4,ex5,aA.c,aC.c,cg,aY,i1]
    refine ah.val (by simp only[EO]) (tr false lk' hx1 at' _) ?_
    rw[ex0]
    simp only[EZ,ag,Nat.reduceAdd,Nat.reduceBEq,dc,bd,bj,bh,aF,aP,ER,EF,au.c,an,ae,dt,nbf,nbt,ebf,ebt,decide_true,ex4,ex5,aA.c,aC.c,cg,aY]
    refine ah.ref (by simp only[EO]) (oO bs (by omega) _) ?_
    rintro _ HB ⟨⟨l3,rfl,hl3⟩,he⟩
    replace he:HB=HA:=he
    subst he
    simp only[EZ,ag,Nat.reduceAdd,Nat.reduceBEq,dc,bd,bj,bh,aF,aP,ER,EF,au.c,an,ae,dt,nbf,nbt,ebf,ebt,decide_true,ex4,ex5,aA.c,aC.c,cg,aY]
    refine ah.val (by simp only[EO,aA.e9]) (ph v l2 okv (by omega) gi po ta no _) ?_
    rw[hd]
    simp only[EZ,ag,Nat.reduceAdd,Nat.reduceBEq,dc,bd,bj,bh,aF,aP,ER,EF,au.c,an,ae,dt,nbf,nbt,ebf,ebt,decide_true,ex4,ex5,aA.c,aC.c,cg,aY]
    refine ah.val (by simp only[EO]) (oG l3 (by omega) _) ?_
    simp only[EZ,ag,Nat.reduceAdd,Nat.reduceBEq,dc,bd,bj,bh,aF,aP,ER,EF,au.c,an,ae,dt,nbf,nbt,ebf,ebt,decide_true,ex4,ex5,aA.c,aC.c,cg,aY]
    refine ah.val (by simp only[EO]) (tj false l3 (by omega) _) ?_
    simp only[EZ,ag,Nat.reduceAdd,Nat.reduceBEq,dc,bd,bj,bh,aF,aP,ER,EF,au.c,an,ae,dt,nbf,nbt,ebf,ebt,decide_true,ex4,ex5,aA.c,aC.c,cg,aY,eb]
    first|exact⟨rfl,rfl,[],by simp⟩|exact⟨rfl,[],by simp⟩|trace_state
  have ha:jG (l++[x])=true:=by
    unfold gr at hok
    split at hok
    · assumption
    · cases hok
  have e:Y=l++[x]:=by rw[hY,gr,if_pos ha]
  have lY:decide ((Y.length:Int)=IntKind.i64.wrap ((l.length:Int)+1))=true:=decide_eq_true (by rw[wN (by omega),e];simp)
  have hYl:Y.length=l.length+1:=by rw[e];simp
  simp only[EZ,ag,Nat.reduceAdd,Nat.reduceBEq,dc,bd,bj,bh,aF,aP,ER,EF,au.c,an,ae,dt,nbf,nbt,ebf,ebt,decide_true,LY,Ll,lY]
  have co:∀t:Int,t≠x.taker→dO Y t x.giver x.nonce=(Y,-1,false):=fun t ht=>by rw[e];exact Co ha ht
  have cs:dO Y x.taker x.giver x.nonce=(l,x.entity,true):=by rw[e];exact wC ha
  have ct:=Cf ha
  refine dD aJ aK [] (fun k:Nat=>k≤4) (fun k=>4-k)
    (fun k=>CP (.vs false 1 false (bs.map fun n=>[.int .u8 n])) (.vs false 4 false (l.map (au.c false))) (.lp ([]:List (List AV)).length 0) (.vs false 4 false (Y.map (au.c false))) (.int .i64 ((k:Int)+1)) (([]:List (List AV))++[x.c false]) H) 0 (by omega) ⟨by simp[CP,eP,eM],rfl,rfl⟩ ?_
  rintro k hk
  simp only[EZ,ag,Nat.reduceAdd,Nat.reduceBEq,dc,bd,bj,bh,aF,aP,ER,EF,au.c,an,ae,dt,nbf,nbt,ebf,ebt,decide_true,CP]
  have wk:k<4→IntKind.i64.wrap ((k:Int)+1+1)=((k+1:Nat):Int)+1:=fun _=>by rw[Rw (by omega) (by omega)];omega
  refine bI (fun hlt=>?_) (fun hge=>?_)
  · have hlt:k<4:=by simp at hlt;omega
    simp only[EZ,ag,Nat.reduceAdd,Nat.reduceBEq,dc,bd,bj,bh,aF,aP,ER,EF,au.c,an,ae,dt,nbf,nbt,ebf,ebt,decide_true]
    refine ah.val (by simp only[EO]) (oc Y (by omega) _ _ _ _) ?_
    by_cases ht:((k:Int)+1)=x.taker
    · have hq:dO Y ((k:Int)+1) x.giver x.nonce=(l,x.entity,true):=by rw[ht];exact cs
      rw[hq]
      simp only[EZ,ag,Nat.reduceAdd,Nat.reduceBEq,dc,bd,bj,bh,aF,aP,ER,EF,au.c,an,ae,dt,nbf,nbt,ebf,ebt,decide_true,decide_eq_true ht]
      exact⟨k+1,hlt,by omega,⟨by rw[wk hlt];simp[eP,eM],rfl,rfl⟩⟩
    · rw[co _ ht]
      simp only[EZ,ag,Nat.reduceAdd,Nat.reduceBEq,dc,bd,bj,bh,aF,aP,ER,EF,au.c,an,ae,dt,nbf,nbt,ebf,ebt,decide_true,decide_eq_false ht]
      exact⟨k+1,hlt,by omega,⟨by rw[wk hlt];simp[eP,eM],rfl,rfl⟩⟩
  clear hge
  simp only[EZ,ag,Nat.reduceAdd,Nat.reduceBEq,dc,bd,bj,bh,aF,aP,ER,EF,au.c,an,ae,dt,nbf,nbt,ebf,ebt,decide_true]
  refine ah.val (by simp only[EO]) (oc Y (by omega) _ _ _ _) ?_
  rw[cs]
  simp only[EZ,ag,Nat.reduceAdd,Nat.reduceBEq,dc,bd,bj,bh,aF,aP,ER,EF,au.c,an,ae,dt,nbf,nbt,ebf,ebt,decide_true]
  refine ah.val (by simp only[EO]) (oc l (by omega) _ _ _ _) ?_
  rw[ct]
  simp only[EZ,ag,Nat.reduceAdd,Nat.reduceBEq,dc,bd,bj,bh,aF,aP,ER,EF,au.c,an,ae,dt,nbf,nbt,ebf,ebt,decide_true,Ll]
  refine ah.val (by simp only[EO]) (CI Y (by omega) _ _) ?_
  obtain⟨D,hD⟩:∃D,D=jZ Y x.taker:=⟨_,rfl⟩
  rw[←hD]
  have LD:=dN false 4 false D (au.c false)
  have hDl:D.length≤Y.length:=by rw[hD];exact E2 _ _
  have dn:∀y∈D,y.taker≠x.taker∧y.giver≠x.taker:=by rw[hD];exact E9
  simp only[EZ,ag,Nat.reduceAdd,Nat.reduceBEq,dc,bd,bj,bh,aF,aP,ER,EF,au.c,an,ae,dt,nbf,nbt,ebf,ebt,decide_true,LD]
  refine dD aJ aK [] (fun k:Nat=>k≤D.length) (fun k=>D.length-k)
    (fun k=>Cr (.vs false 1 false (bs.map fun n=>[.int .u8 n])) (.lp ([]:List (List AV)).length 0) (.vs false 4 false (D.map (au.c false))) (.int .i64 k) (([]:List (List AV))++[x.c false]) H) 0 (by omega) ⟨by simp[Cr,eP,eM],rfl,rfl⟩ ?_
  rintro k3 hk3'
  simp only[EZ,ag,Nat.reduceAdd,Nat.reduceBEq,dc,bd,bj,bh,aF,aP,ER,EF,au.c,an,ae,dt,nbf,nbt,ebf,ebt,decide_true,Cr,LD]
  refine bI (fun hlt=>?_) (fun hge=>?_)
  · have hlt:k3<D.length:=by simpa using hlt
    have iD:=dy (β:=false) (sz:=4) (ex:=false) (ce:=au.c false) hlt
    obtain⟨n1,n2⟩:=dn _ (List.getElem_mem hlt)
    simp only[EZ,ag,Nat.reduceAdd,Nat.reduceBEq,dc,bd,bj,bh,aF,aP,ER,EF,au.c,an,ae,dt,nbf,nbt,ebf,ebt,decide_true,iD,decide_eq_false n1,decide_eq_false n2]
    exact⟨k3+1,hlt,by omega,⟨by rw[wN (by omega)];simp[eP,eM],rfl,rfl⟩⟩
  clear hge
  simp only[EZ,ag,Nat.reduceAdd,Nat.reduceBEq,dc,bd,bj,bh,aF,aP,ER,EF,au.c,an,ae,dt,nbf,nbt,ebf,ebt,decide_true]
  refine ah.ref (by simp only[EO]) (xk bs (by omega) _) ?_
  rintro _ HA ⟨⟨v,l2,gi,po,ta,no,rfl,g,hl2⟩,he⟩
  replace he:HA=H:=he
  subst he
  have gw:=g.w
  have okv:v.ok 1048576:=g.vi.MN.mono (by omega)
  have hvl:v.aq.length≤1048576:=okv.2.2.2.2.1
  simp only[EZ,ag,Nat.reduceAdd,Nat.reduceBEq,dc,bd,bj,bh,aF,aP,ER,EF,au.c,an,ae,dt,nbf,nbt,ebf,ebt,decide_true,ex4,ex5,aA.c,aC.c,cg,aY]
  refine ah.val (by simp only[EO,aA.e9]) (wh v l2 okv (by omega) gi po ta no _) ?_
  have LAST:∀d:Bool,d=(i7 v l2 gi po ta no).2→dY .eql .bool (.bool d) (.bool (i7 v l2 gi po ta no).2)=some (.bool true):=fun d e=>by rw[←e];cases d<;>rfl
  cases hd:(i7 v l2 gi po ta no).2
  · simp only[EZ,ag,Nat.reduceAdd,Nat.reduceBEq,dc,bd,bj,bh,aF,aP,ER,EF,au.c,an,ae,dt,nbf,nbt,ebf,ebt,decide_true,ex4,ex5,aA.c,aC.c,cg,aY]
    refine ah.ref (by simp only[EO]) (oO bs (by omega) _) ?_
    rintro _ HB ⟨⟨l3,rfl,hl3⟩,he⟩
    replace he:HB=HA:=he
    subst he
    simp only[EZ,ag,Nat.reduceAdd,Nat.reduceBEq,dc,bd,bj,bh,aF,aP,ER,EF,au.c,an,ae,dt,nbf,nbt,ebf,ebt,decide_true,ex4,ex5,aA.c,aC.c,cg,aY]
    refine ah.val (by simp only[EO,aA.e9]) (ph v l2 okv (by omega) gi po ta no _) ?_
    rw[hd]
    simp only[EZ,ag,Nat.reduceAdd,Nat.reduceBEq,dc,bd,bj,bh,aF,aP,ER,EF,au.c,an,ae,dt,nbf,nbt,ebf,ebt,decide_true,ex4,ex5,aA.c,aC.c,cg,aY]
    refine ah.val (by simp only[EO]) (oG l3 (by omega) _) ?_
    simp only[EZ,ag,Nat.reduceAdd,Nat.reduceBEq,dc,bd,bj,bh,aF,aP,ER,EF,au.c,an,ae,dt,nbf,nbt,ebf,ebt,decide_true,ex4,ex5,aA.c,aC.c,cg,aY]
    refine ah.val (by simp only[EO]) (tj false l3 (by omega) _) ?_
    simp only[EZ,ag,Nat.reduceAdd,Nat.reduceBEq,dc,bd,bj,bh,aF,aP,ER,EF,au.c,an,ae,dt,nbf,nbt,ebf,ebt,decide_true,ex4,ex5,aA.c,aC.c,cg,aY,eb]
    first|exact⟨rfl,rfl,[],by simp⟩|exact⟨rfl,[],by simp⟩|trace_state
  have dl:=BE v l2 gi po ta no
  obtain⟨k,k2,hk,hk2,e0,ek,ek2,ee,ea,ep,ex0,ek3⟩:=Cn (K:=93) (by omega) g hd
  simp only[EZ,ag,Nat.reduceAdd,Nat.reduceBEq,dc,bd,bj,bh,aF,aP,ER,EF,au.c,an,ae,dt,nbf,nbt,ebf,ebt,decide_true,ex4,ex5,aA.c,aC.c,cg,aY]
  refine ah.val (by simp only[EO,aA.e9]) (zF v (i7 v l2 gi po ta no).1 okv (by omega) ta gi no _) ?_
  rw[ea]
  obtain⟨lk',hlk'⟩:∃lk',lk'=(df v.aq[k2] e0).1:=⟨_,rfl⟩
  obtain⟨at',hat'⟩:∃at',at'=(df v.aq[k2] e0).2:=⟨_,rfl⟩
  rw[←hlk',←hat']at ex0
  rw[←hlk']at ek3
  rw[←hat']at ep
  rw[←hlk',←hat']
  have i0:=dy (β:=false) (sz:=7) (ex:=false) (ce:=aC.c false) hk
  have hk3:k2<(v.aq.set k2 lk').length:=by simpa using hk2
  have i1:=dy (β:=false) (sz:=7) (ex:=false) (ce:=aC.c false) hk3
  rw[List.getElem_set_self]at i1
  have hx0:v.aq[k].exports.length≤1048576:=(okv.2.2.2.2.2.1 _ (List.getElem_mem hk)).1
  have hx1:lk'.exports.length≤1048576:=by
    have h1:=(kg v.aq[k2] e0).1
    have h2:=(g.vi.Ff.mono (show wV v+100≤1000000 by omega) _ (List.getElem_mem hk2)).1
    rw[hlk'];omega
  simp only[EZ,ag,Nat.reduceAdd,Nat.reduceBEq,dc,bd,bj,bh,aF,aP,ER,EF,au.c,an,ae,dt,nbf,nbt,ebf,ebt,decide_true,ex4,ex5,aA.c,aC.c,cg,aY]
  refine ah.val (by simp only[EO,aA.e9]) (lf false v hvl gi _) ?_
  rw[ek]
  simp only[EZ,ag,Nat.reduceAdd,Nat.reduceBEq,dc,bd,bj,bh,aF,aP,ER,EF,au.c,an,ae,dt,nbf,nbt,ebf,ebt,decide_true,ex4,ex5,aA.c,aC.c,cg,aY,i0]
  refine ah.val (by simp only[EO]) (tr false v.aq[k] hx0 po _) ?_
  rw[ee]
  simp only[EZ,ag,Nat.reduceAdd,Nat.reduceBEq,dc,bd,bj,bh,aF,aP,ER,EF,au.c,an,ae,dt,nbf,nbt,ebf,ebt,decide_true,ex4,ex5,aA.c,aC.c,cg,aY,show decide (at'<1)=false from decide_eq_false (by omega)]
  refine ah.val (by simp only[EO,aA.e9]) (lf false { v with aq:=v.aq.set k2 lk' } (by simpa using hvl) ta _) ?_
  rw[ek3]
  simp only[EZ,ag,Nat.reduceAdd,Nat.reduceBEq,dc,bd,bj,bh,aF,aP,ER,EF,au.c,an,ae,dt,nbf,nbt,ebf,ebt,decide_true,ex4,ex5,aA.c,aC.c,cg,aY,i1]
  refine ah.val (by simp only[EO]) (tr false lk' hx1 at' _) ?_
  rw[ex0]
  simp only[EZ,ag,Nat.reduceAdd,Nat.reduceBEq,dc,bd,bj,bh,aF,aP,ER,EF,au.c,an,ae,dt,nbf,nbt,ebf,ebt,decide_true,ex4,ex5,aA.c,aC.c,cg,aY]
  refine ah.ref (by simp only[EO]) (oO bs (by omega) _) ?_
  rintro _ HB ⟨⟨l3,rfl,hl3⟩,he⟩
  replace he:HB=HA:=he
  subst he
  simp only[EZ,ag,Nat.reduceAdd,Nat.reduceBEq,dc,bd,bj,bh,aF,aP,ER,EF,au.c,an,ae,dt,nbf,nbt,ebf,ebt,decide_true,ex4,ex5,aA.c,aC.c,cg,aY]
  refine ah.val (by simp only[EO,aA.e9]) (ph v l2 okv (by omega) gi po ta no _) ?_
  rw[hd]
  simp only[EZ,ag,Nat.reduceAdd,Nat.reduceBEq,dc,bd,bj,bh,aF,aP,ER,EF,au.c,an,ae,dt,nbf,nbt,ebf,ebt,decide_true,ex4,ex5,aA.c,aC.c,cg,aY]
  refine ah.val (by simp only[EO]) (oG l3 (by omega) _) ?_
  simp only[EZ,ag,Nat.reduceAdd,Nat.reduceBEq,dc,bd,bj,bh,aF,aP,ER,EF,au.c,an,ae,dt,nbf,nbt,ebf,ebt,decide_true,ex4,ex5,aA.c,aC.c,cg,aY]
  refine ah.val (by simp only[EO]) (tj false l3 (by omega) _) ?_
  simp only[EZ,ag,Nat.reduceAdd,Nat.reduceBEq,dc,bd,bj,bh,aF,aP,ER,EF,au.c,an,ae,dt,nbf,nbt,ebf,ebt,decide_true,ex4,ex5,aA.c,aC.c,cg,aY,eb]
  first|exact⟨rfl,rfl,[],by simp⟩|exact⟨rfl,[],by simp⟩|trace_state
end Go.Proofs.YtccjhmhkfnnmaaaGreat
