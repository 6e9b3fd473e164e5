import Derived.Test.YtkepagpkphgpeaaGreatDoorR6G16
import Derived.Test.YtkepagpkphgpeaaGreatDoorAmG8
set_option linter.unusedVariables false
set_option linter.unusedSimpArgs false
namespace Go.Proofs.YtkepagpkphgpeaaGreatDoor
open Go.AM
set_option maxHeartbeats 1000000
theorem eB:type_of% (And.intro EV (And.intro EL (And.intro EB (And.intro EF (And.intro EM (And.intro @Bool.false_eq_true (And.intro @Bool.not_true (And.intro @Bool.not_false (And.intro @yz (And.intro @yE (And.intro @yT (And.intro @if_true.{1} (And.intro @if_false.{1} (@Option.bind_some.{0,0})))))))))))))):=And.intro EV (And.intro EL (And.intro EB (And.intro EF (And.intro EM (And.intro @Bool.false_eq_true (And.intro @Bool.not_true (And.intro @Bool.not_false (And.intro @yz (And.intro @yE (And.intro @yT (And.intro @if_true.{1} (And.intro @if_false.{1} (@Option.bind_some.{0,0})))))))))))))
variable {Γ:aZ}
theorem nK(k:Int)(hk:0≤k)(hb:k≤9223372036854775000)(h:AH):T Tryz.prog Γ Fn.uO [.int .i64 k] h fun v h'=>v=.str (dZ k)∧h'=h:=by
  refine(?_:T Tryz.prog Γ Fn.uO _ h fun v h'=>v=.str (dZ k)∧∃N,h'=h++N).drop (by rintro v h' ⟨rfl,N,rfl⟩;exact⟨N,rfl,.str _,rfl,rfl⟩)
  refine FC (ax aB mixed [] _ _ _ ?_)
  unfold zE
  simp only[eB,ag,Nat.reduceAdd,Nat.reduceBEq,Nat.reduceLeDiff,jX]
  by_cases h0:k≤0
  · simp only[eB,ag,Nat.reduceAdd,Nat.reduceBEq,Nat.reduceLeDiff,jX,decide_eq_true h0]
    exact⟨rfl,by rw[dZ,if_pos h0],[],by simp⟩
  simp only[eB,ag,Nat.reduceAdd,Nat.reduceBEq,Nat.reduceLeDiff,jX,decide_eq_false h0]
  have hm:dZ k=⟨#[109]⟩++rk k.toNat ⟨#[]⟩:=by rw[dZ,if_neg h0]
  refine bU aB mixed [] (fun x:Nat×ByteArray×AH=>rk k.toNat ⟨#[]⟩=rk x.1 x.2.1∧x.1+x.2.1.size≤9223372036854775000∧∃N,x.2.2=h++N) (fun x=>x.1)
    (fun x=>qi (.int .i64 x.1) (.str x.2.1) [] x.2.2) (k.toNat,⟨#[]⟩,h) ⟨rfl,(by simp only[show(ByteArray.mk #[]).size=0 from rfl];omega),[],by simp⟩ ⟨by
      have:((k.toNat:Nat):Int)=k:=by omega
      simp[qi,cG,cI,this],rfl,rfl⟩ ?_
  rintro⟨n,s,H⟩ ⟨hI,hs,N,hN⟩
  simp only at hI hs hN
  simp only[eB,ag,Nat.reduceAdd,Nat.reduceBEq,Nat.reduceLeDiff,qi]
  by_cases hn:(0:Int)<(n:Int)
  rotate_left
  · have:n=0:=by omega
    subst this
    have e0:rk 0 s=s:=by unfold rk;rw[dif_pos rfl]
    have ead:bg .add .num (.str ⟨#[109]⟩) (.str s)=some (.str (⟨#[109]⟩++s)):=by
      have:(ByteArray.mk #[109]).size=1:=rfl
      have:IntKind.i64.max=9223372036854775807:=rfl
      simp only[bg];rw[if_neg];omega
    simp only[eB,ag,Nat.reduceAdd,Nat.reduceBEq,Nat.reduceLeDiff,jX,decide_eq_false hn,ead]
    exact⟨rfl,by rw[hm,hI,e0],N,hN⟩
  have hnp:0<n:=by omega
  have er:bg .rem .num (.int .i64 (n:Int)) (.int .i64 10)=some (.int .i64 ((n % 10:Nat):Int)):=by
    simp only[bg,dv,if_true];rw[if_neg (by decide)];simp[Int.tmod_eq_emod_of_nonneg]
  have eq:bg .quo .num (.int .i64 (n:Int)) (.int .i64 10)=some (.int .i64 ((n / 10:Nat):Int)):=by
    simp only[bg,dv,if_true];rw[if_neg (by decide),Int.tdiv_eq_ediv_of_nonneg (by omega),aY (by omega) (by omega)];simp
  have ew:IntKind.i64.wrap (48+((n % 10:Nat):Int))=((48+n % 10:Nat):Int):=by rw[aY (by omega) (by omega)];simp
  have ec:IntKind.u8.wrap ((48+n % 10:Nat):Int)=((48+n % 10:Nat):Int):=by
    simp[IntKind.wrap,IntKind.bits,IntKind.signed];omega
  have l9:∀(gl:Bool) (s:St) (x:X) (m:Int),s.eval Γ x=.int .i64 m→AM.step Γ gl s (.cvi .u8 x)=.val (.int .u8 (IntKind.u8.wrap m)) s:=fun gl s x m e=>by simp only[AM.step,e]
  have tD:∀(gl:Bool) (e:List AV) (l:List (List AV)) (c:Nat),(St.mk e l (H++[some (0,[.int .u8 (c:Int)])])).eval Γ (.t 12)=.gs H.length 0 0 1 1 1 true→AM.step Γ gl (St.mk e l (H++[some (0,[.int .u8 (c:Int)])])) (.cvt (.t 12))=.val (.str ⟨#[UInt8.ofNat c]⟩) (St.mk e l (H++[some (0,[.int .u8 (c:Int)])])):=fun gl e l c he=>by
    simp only[AM.step,he,St.aE,if_true,bx,Option.bind_some]
    simp[sub,bz,AR.cZ]
  have ead:∀c:UInt8,bg .add .num (.str ⟨#[c]⟩) (.str s)=some (.str (⟨#[c]⟩++s)):=fun c=>by
    have:(ByteArray.mk #[c]).size=1:=rfl
    have:IntKind.i64.max=9223372036854775807:=rfl
    simp only[bg];rw[if_neg];omega
  have hcv:∀(e:List AV) (l:List (List AV)) (h:AH) (gl:Bool) (x:X) (m:Int),(St.mk e l h).eval Γ x=.int .i64 m→AM.step Γ gl (St.mk e l h) (.cvi .u8 x)=.val (.int .u8 (IntKind.u8.wrap m)) (St.mk e l h):=fun e l h gl x m he=>l9 gl _ x m he
  simp only[eB,ag,Nat.reduceAdd,Nat.reduceBEq,Nat.reduceLeDiff,jX,decide_eq_true hn,er,eq,ew]
  rw[hcv _ _ _ _ _ _ rfl,ec]
  simp only[eB,ag,Nat.reduceAdd,Nat.reduceBEq,Nat.reduceLeDiff,jX,List.replicate,List.flatten_cons,List.flatten_nil,vZ,vF,Nat.zero_mul,CF _ _ _ _ _ _ (show List.all [AV.int .u8 ((48+n % 10:Nat):Int)] aK=true from rfl)]
  rw[tD _ _ _ _ rfl]
  simp only[eB,ag,Nat.reduceAdd,Nat.reduceBEq,Nat.reduceLeDiff,jX,ead,eq]
  refine⟨(n / 10,⟨#[UInt8.ofNat (48+n % 10)]⟩++s,H++[some (0,[.int .u8 ((48+n % 10:Nat):Int)])]),⟨?_,?_,N++_,by simp only;rw[hN,List.append_assoc]⟩,by simp only;omega,⟨by simp[qi,cG,cI],rfl,rfl⟩⟩
  · simp only;rw[hI];conv=>lhs;unfold rk
    rw[dif_neg (by omega)]
  · simp only[ByteArray.size_append]
    have:(ByteArray.mk #[UInt8.ofNat (48+n % 10)]).size=1:=rfl
    omega
theorem Fw(l:List aj)(k:Int)(hk:0≤k)(hb:k+aG aj.aL l≤9223372036854775000)(hl:l.length≤1073741824)(ho:∀x∈l,x.ok 1073741824)(H:AH){a:AV}{fp:List Nat}(o:bM H a (.sl 6 (l.map aj.cd)) fp)(nd:fp.Nodup):
    T Tryz.prog Γ Fn.IT [a,.int .i64 k] H fun v h'=>v=.int .i64 (k+aG aj.aL l)∧(h'.length=H.length∧(∀c,c∉fp→h'[c]? = H[c]?)∧bM h' a (.sl 6 ((fj aj.dD aj.aL l k).map aj.cd)) fp):=by
  rcases o.gf with⟨rfl,e,rfl⟩|⟨b,g,cap,ex,as0,tail,fp,rfl,rfl,hg,hsz,ht,hc,hown⟩
  · have e:l=[]:=by simpa using e
    subst e
    have L0:gq false .nils=some (.int .i64 0):=rfl
    refine zY (ax aB mixed [] _ _ _ ?_)
    unfold wK
    simp only[eB,ag,Nat.reduceAdd,Nat.reduceBEq,Nat.reduceLeDiff,jQ]
    refine bU aB mixed [] (fun _:Unit=>True) (fun _=>0) (fun _=>iH .nils (.int .i64 k) (.int .i64 0) [] H) () trivial ⟨by simp[iH,cG,cI],rfl,rfl⟩ ?_
    intro _ _
    simp only[eB,ag,Nat.reduceAdd,Nat.reduceBEq,Nat.reduceLeDiff,jQ,iH,L0,show decide ((0:Int)<0)=false from rfl]
    refine⟨rfl,by simp[aG],?_⟩
    first|exact⟨rfl,fun _ _=>rfl,.nil _⟩|exact⟨fun _ _=>trivial,.nil _⟩
  simp only[List.length_map]at hc o ⊢
  have L0:gq false (.gs b g 0 l.length cap 6 ex)=some (.int .i64 l.length):=rfl
  have hbf:b∉fp:=(List.nodup_cons.1 nd).1
  refine zY (ax aB mixed [] _ _ _ ?_)
  unfold wK
  simp only[eB,ag,Nat.reduceAdd,Nat.reduceBEq,Nat.reduceLeDiff,jQ]
  refine bU aB mixed [] (fun y:Nat×AH×List AV×List AV×List Nat×List Nat=>y.1≤l.length∧iF H b g tail fp aj.cd (l.drop y.1) (fj aj.dD aj.aL (l.take y.1) k) y.2.1 y.2.2.1 y.2.2.2.1 y.2.2.2.2.1 y.2.2.2.2.2) (fun y=>l.length-y.1)
    (fun y=>iH (.gs b g 0 l.length cap 6 ex) (.int .i64 (k+aG aj.aL (l.take y.1))) (.int .i64 y.1) [] y.2.1) (0,H,[],as0,[],fp) ⟨by simp,by simpa[fj]using iF.start hg hown⟩ ⟨by simp[iH,cG,cI,aG],rfl,rfl⟩ ?_
  rintro⟨j,H',as1,as2,f1,f2⟩ ⟨hj,iv⟩
  simp only at hj iv
  simp only[eB,ag,Nat.reduceAdd,Nat.reduceBEq,Nat.reduceLeDiff,jQ,iH,L0]
  refine aR (fun hlt=>?_) (fun hge=>?_)
  rotate_left
  · have hge:j=l.length:=by simp at hge;omega
    subst hge
    simp only[eB,ag,Nat.reduceAdd,Nat.reduceBEq,Nat.reduceLeDiff,jQ]
    rw[List.drop_length,List.take_length]at iv
    rw[List.take_length]
    exact⟨rfl,rfl,iv.done dM (fun _=>rfl) ht hc⟩
  have hlt:j<l.length:=by simpa using hlt
  have htk:=dK aj.aL hlt
  have hle:=gZ (c:=aj.aL) aj.aU hlt
  have hnn:=bt (c:=aj.aL) aj.aU (l.take j)
  have hmt:=lq aj.dD aj.aL hlt k
  rw[List.drop_eq_getElem_cons hlt]at iv
  obtain⟨x,hx⟩:∃x,x=l[j]:=⟨_,rfl⟩
  rw[←hx]at iv
  try rw[←hx]at htk hle
  try rw[←hx]at hmt
  obtain⟨kj,hkj⟩:∃kj,kj=k+aG aj.aL (l.take j):=⟨_,rfl⟩
  rw[←hkj]at hmt
  rw[←hkj]
  have hk0:0≤kj:=by omega
  have hkb:kj+aj.aL x≤9223372036854775000:=by omega
  obtain⟨h1,h2,cs,post,fx,fr,e1,e2,rfl,rfl,q1,q2⟩:=iv.open
  have hfx:∀c∈fx,c≠b:=fun c hc e=>hbf (by rw[iv.fps,←e];simp[hc])
  have ndx:fx.Nodup:=(List.nodup_append.1 (List.nodup_append.1 (iv.fps▸(List.nodup_cons.1 nd).2)).2.1).1
  have hn0:as1.length=j*6:=by rw[iv.o1.len,gX (sz:=6) (fun y _=>rfl),dM,List.length_take,Nat.min_eq_left hj]
  have i0:bN 6 (.gs b g 0 l.length cap 6 ex) (j:Int)=some (.gp b g as1.length):=by rw[fW hlt,hn0,Nat.zero_add]
  simp only[aj.aL]at hkb
  have hox:=ho _ (List.getElem_mem hlt);rw[←hx]at hox
  simp only[aj.cd,l7,jA,rz,qO,mb]at q1
  obtain⟨_,_,_,_,rfl,e0z,⟨rfl,rfl⟩,⟨_,_,_,_,rfl,e1z,⟨rfl,rfl⟩,⟨_,_,_,_,rfl,e2z,⟨rfl,rfl⟩,⟨_,_,_,_,rfl,e3z,⟨rfl,rfl⟩,⟨_,_,_,_,rfl,e4z,⟨rfl,rfl⟩,⟨_,_,_,_,rfl,e5z,⟨rfl,rfl⟩,⟨rfl,e6z⟩⟩⟩⟩⟩⟩⟩:=q1
  have hfxe:fx=[]:=by rw[e0z,e1z,e2z,e3z,e4z,e5z,e6z];simp
  have ow:aJ H' [] [] fx:=by rw[hfxe];exact .nil
  have hlen0:=(rfl:H'.length=H'.length)
  have fr0:∀c,c≠b→c∉fx→H'[c]? = H'[c]?:=fun _ _ _=>rfl
  have w0:IntKind.i64.wrap (kj+1)=kj+1:=(aY (by omega) (by omega)).trans (by omega)
  have w1:IntKind.i64.wrap (kj+1+1)=kj+2:=(aY (by omega) (by omega)).trans (by omega)
  have w2:IntKind.i64.wrap (kj+2+1)=kj+3:=(aY (by omega) (by omega)).trans (by omega)
  have w3:IntKind.i64.wrap (kj+3+1)=kj+4:=(aY (by omega) (by omega)).trans (by omega)
  have w4:IntKind.i64.wrap (kj+4+1)=kj+5:=(aY (by omega) (by omega)).trans (by omega)
  have w5:IntKind.i64.wrap (kj+5+1)=kj+6:=(aY (by omega) (by omega)).trans (by omega)
  obtain⟨H0,hH0⟩:∃H0,H0=H':=⟨_,rfl⟩
  rw[←hH0]at iv q2 ow fr0 hlen0
  have fr0:∀c,c≠b→c∉fx→H'[c]? = H0[c]?:=fun _ _ _=>by rw[hH0]
  have hlen0:H'.length=H0.length:=by rw[hH0]
  rw[hH0]at ow
  replace e1:H'=h1++some (g,as1++tt [.int .i64 x.op,.int .i64 x.a,.int .i64 x.b,.int .i64 x.c_,.int .i64 x.d,.str x.name] (post++tail))::h2:=e1
  subst e1
  simp only[eB,ag,Nat.reduceAdd,Nat.reduceBEq,Nat.reduceLeDiff,jQ,i0,jZ e2 rfl,jP e2 rfl,w0,w1,w2,w3,w4,w5]
  refine an.val (by simp only[EO]) (nK (kj+5) (by omega) (by omega) _) ?_
  simp only[eB,ag,Nat.reduceAdd,Nat.reduceBEq,Nat.reduceLeDiff,jQ,i0,jZ e2 rfl,jP e2 rfl,w0,w1,w2,w3,w4,w5]
  refine⟨(j+1,_,as1++[.int .i64 (kj),.int .i64 (kj+1),.int .i64 (kj+2),.int .i64 (kj+3),.int .i64 (kj+4),.str (dZ (kj+5))],post,f1++[],fr),⟨hlt,?inv⟩,(by simp only;omega),⟨?le,rfl,rfl⟩⟩
  case inv=>
    simp only;rw[hmt]
    subst hfxe
    exact iv.next (y:=aj.dD x kj) nd q2 (by rw[←hlen0];(try simp)) (je e2) (fun c h1 h2=>(jr e2 h1).trans (fr0 c h1 h2)) (.i (.i (.i (.i (.i (.s .nil))))))
  case le=>
    have hfin:k+aG aj.aL (l.take (j+1))=kj+6:=by rw[htk];simp only[aj.aL];omega
    rw[hfin,wN (by omega)];(try simp[iH,cG,cI])
theorem DO(l:List ah)(k:Int)(hk:0≤k)(hb:k+aG ah.aL l≤9223372036854775000)(hl:l.length≤1073741824)(ho:∀x∈l,x.ok 1073741824)(H:AH){a:AV}{fp:List Nat}(o:bM H a (.sl 2 (l.map ah.cd)) fp)(nd:fp.Nodup):
    T Tryz.prog Γ Fn.Jo [a,.int .i64 k] H fun v h'=>v=.int .i64 (k+aG ah.aL l)∧(h'.length=H.length∧(∀c,c∉fp→h'[c]? = H[c]?)∧bM h' a (.sl 2 ((fj ah.dD ah.aL l k).map ah.cd)) fp):=by
  rcases o.gf with⟨rfl,e,rfl⟩|⟨b,g,cap,ex,as0,tail,fp,rfl,rfl,hg,hsz,ht,hc,hown⟩
  · have e:l=[]:=by simpa using e
    subst e
    have L0:gq false .nils=some (.int .i64 0):=rfl
    refine Au (ax aB mixed [] _ _ _ ?_)
    unfold vp
    simp only[eB,ag,Nat.reduceAdd,Nat.reduceBEq,Nat.reduceLeDiff,iQ]
    refine bU aB mixed [] (fun _:Unit=>True) (fun _=>0) (fun _=>iu .nils (.int .i64 k) (.int .i64 0) [] H) () trivial ⟨by simp[iu,cG,cI],rfl,rfl⟩ ?_
    intro _ _
    simp only[eB,ag,Nat.reduceAdd,Nat.reduceBEq,Nat.reduceLeDiff,iQ,iu,L0,show decide ((0:Int)<0)=false from rfl]
    refine⟨rfl,by simp[aG],?_⟩
    first|exact⟨rfl,fun _ _=>rfl,.nil _⟩|exact⟨fun _ _=>trivial,.nil _⟩
  simp only[List.length_map]at hc o ⊢
  have L0:gq false (.gs b g 0 l.length cap 2 ex)=some (.int .i64 l.length):=rfl
  have hbf:b∉fp:=(List.nodup_cons.1 nd).1
  refine Au (ax aB mixed [] _ _ _ ?_)
  unfold vp
  simp only[eB,ag,Nat.reduceAdd,Nat.reduceBEq,Nat.reduceLeDiff,iQ]
  refine bU aB mixed [] (fun y:Nat×AH×List AV×List AV×List Nat×List Nat=>y.1≤l.length∧iF H b g tail fp ah.cd (l.drop y.1) (fj ah.dD ah.aL (l.take y.1) k) y.2.1 y.2.2.1 y.2.2.2.1 y.2.2.2.2.1 y.2.2.2.2.2) (fun y=>l.length-y.1)
    (fun y=>iu (.gs b g 0 l.length cap 2 ex) (.int .i64 (k+aG ah.aL (l.take y.1))) (.int .i64 y.1) [] y.2.1) (0,H,[],as0,[],fp) ⟨by simp,by simpa[fj]using iF.start hg hown⟩ ⟨by simp[iu,cG,cI,aG],rfl,rfl⟩ ?_
  rintro⟨j,H',as1,as2,f1,f2⟩ ⟨hj,iv⟩
  simp only at hj iv
  simp only[eB,ag,Nat.reduceAdd,Nat.reduceBEq,Nat.reduceLeDiff,iQ,iu,L0]
  refine aR (fun hlt=>?_) (fun hge=>?_)
  rotate_left
  · have hge:j=l.length:=by simp at hge;omega
    subst hge
    simp only[eB,ag,Nat.reduceAdd,Nat.reduceBEq,Nat.reduceLeDiff,iQ]
    rw[List.drop_length,List.take_length]at iv
    rw[List.take_length]
    exact⟨rfl,rfl,iv.done dM (fun _=>rfl) ht hc⟩
  have hlt:j<l.length:=by simpa using hlt
  have htk:=dK ah.aL hlt
  have hle:=gZ (c:=ah.aL) ah.aU hlt
  have hnn:=bt (c:=ah.aL) ah.aU (l.take j)
  have hmt:=lq ah.dD ah.aL hlt k
  rw[List.drop_eq_getElem_cons hlt]at iv
  obtain⟨x,hx⟩:∃x,x=l[j]:=⟨_,rfl⟩
  rw[←hx]at iv
  try rw[←hx]at htk hle
  try rw[←hx]at hmt
  obtain⟨kj,hkj⟩:∃kj,kj=k+aG ah.aL (l.take j):=⟨_,rfl⟩
  rw[←hkj]at hmt
  rw[←hkj]
  have hk0:0≤kj:=by omega
  have hkb:kj+ah.aL x≤9223372036854775000:=by omega
  obtain⟨h1,h2,cs,post,fx,fr,e1,e2,rfl,rfl,q1,q2⟩:=iv.open
  have hfx:∀c∈fx,c≠b:=fun c hc e=>hbf (by rw[iv.fps,←e];simp[hc])
  have ndx:fx.Nodup:=(List.nodup_append.1 (List.nodup_append.1 (iv.fps▸(List.nodup_cons.1 nd).2)).2.1).1
  have hn0:as1.length=j*2:=by rw[iv.o1.len,gX (sz:=2) (fun y _=>rfl),dM,List.length_take,Nat.min_eq_left hj]
  have i0:bN 2 (.gs b g 0 l.length cap 2 ex) (j:Int)=some (.gp b g as1.length):=by rw[fW hlt,hn0,Nat.zero_add]
  have z0:=bt (c:=aj.aL) aj.aU x.code
  simp only[ah.aL]at hkb
  have hox:=ho _ (List.getElem_mem hlt);rw[←hx]at hox
  simp only[ah.cd,l7,jA,rz,qO,mb]at q1
  obtain⟨_,_,_,_,rfl,e0z,⟨rfl,rfl⟩,⟨a1,_,g1,_,rfl,e1z,u1,⟨rfl,e2z⟩⟩⟩:=q1
  have hfxe:fx=(g1++[]):=by rw[e0z,e1z,e2z];simp
  have ow:aJ H' [a1] [.sl 6 (x.code.map aj.cd)] fx:=by rw[hfxe];exact(.o u1 .nil)
  obtain⟨c1a,c1b,c1c,c1d⟩:=u1.cell
  have hlen0:=(rfl:H'.length=H'.length)
  have fr0:∀c,c≠b→c∉fx→H'[c]? = H'[c]?:=fun _ _ _=>rfl
  have w0:IntKind.i64.wrap (kj+1)=kj+1:=(aY (by omega) (by omega)).trans (by omega)
  obtain⟨H0,hH0⟩:∃H0,H0=H':=⟨_,rfl⟩
  rw[←hH0]at iv q2 ow fr0 hlen0
  have fr0:∀c,c≠b→c∉fx→H'[c]? = H0[c]?:=fun _ _ _=>by rw[hH0]
  have hlen0:H'.length=H0.length:=by rw[hH0]
  rw[hH0]at ow
  replace e1:H'=h1++some (g,as1++tt [.str x.name,a1] (post++tail))::h2:=e1
  subst e1
  simp only[eB,ag,Nat.reduceAdd,Nat.reduceBEq,Nat.reduceLeDiff,iQ,i0,jZ e2 rfl,jP e2 rfl,w0,c1a,c1b,c1c]
  refine an.val (by simp only[EO]) (nK (kj) (by omega) (by omega) _) ?_
  simp only[eB,ag,Nat.reduceAdd,Nat.reduceBEq,Nat.reduceLeDiff,iQ,i0,jZ e2 rfl,jP e2 rfl,w0,c1a,c1b,c1c]
  obtain⟨gi1,oi1,ni1,si1,bk1⟩:=aJ.pick (A:=[]) (D:=[]) rfl (ow.frame fun c hc=>jr e2 (hfx c hc)) ndx
  refine an.ref (by simp only[EO,c1d]) (Fw x.code (kj+1) (by omega) (by omega) (hox.2.1) (hox.2.2) _ oi1 ni1) ?_
  rintro _ hn ⟨rfl,hlen1,hfr1,un1⟩
  replace ow:=bk1 hn _ hfr1 un1
  have fr1:∀c,c≠b→c∉fx→hn[c]? = H0[c]?:=fun c h1 h2=>(hfr1 c (fun h=>h2 (si1 c h))).trans ((jr e2 h1).trans (fr0 c h1 h2))
  have hlen1:hn.length=H0.length:=by rw[hlen1];(try rw[←hlen0]);(try simp)
  obtain⟨p1,r1,rfl,eh1⟩:=qe (kP (je e2) (hfr1 b (fun h=>hfx b (si1 b h) rfl)))
  simp only[eB,ag,Nat.reduceAdd,Nat.reduceBEq,Nat.reduceLeDiff,iQ,i0,jZ eh1 rfl,jP eh1 rfl,w0,c1a,c1b,c1c]
  refine⟨(j+1,_,as1++[.str (dZ (kj)),a1],post,f1++fx,fr),⟨hlt,?inv⟩,(by simp only;omega),⟨?le,rfl,rfl⟩⟩
  case inv=>
    simp only;rw[hmt]
    replace ow:=ow.frame fun c hc=>jr (x:=some (g,as1++tt [.str (dZ (kj)),a1] (post++tail))) eh1 (hfx c hc)
    obtain⟨F0,R0,E0,O0,hz⟩:=ow
    have hz:R0=[]:=hz
    refine iv.next (y:=ah.dD x kj) nd q2 (by rw[←hlen1];(try simp)) (je eh1) (fun c h1 h2=>(jr eh1 h1).trans (fr1 c h1 h2)) ?_
    rw[E0,hz];exact(.s (.o O0 .nil))
  case le=>
    have hfin:k+aG ah.aL (l.take (j+1))=kj+1+aG aj.aL x.code:=by rw[htk];simp only[ah.aL];omega
    rw[hfin,wN (by omega)];(try simp[iu,cG,cI])
theorem FX(l:List ae)(k:Int)(hk:0≤k)(hb:k+aG ae.aL l≤9223372036854775000)(hl:l.length≤1073741824)(ho:∀x∈l,x.ok 1073741824)(H:AH){a:AV}{fp:List Nat}(o:bM H a (.sl 2 (l.map ae.cd)) fp)(nd:fp.Nodup):
    T Tryz.prog Γ Fn.I1 [a,.int .i64 k] H fun v h'=>v=.int .i64 (k+aG ae.aL l)∧(h'.length=H.length∧(∀c,c∉fp→h'[c]? = H[c]?)∧bM h' a (.sl 2 ((fj ae.dD ae.aL l k).map ae.cd)) fp):=by
  rcases o.gf with⟨rfl,e,rfl⟩|⟨b,g,cap,ex,as0,tail,fp,rfl,rfl,hg,hsz,ht,hc,hown⟩
  · have e:l=[]:=by simpa using e
    subst e
    have L0:gq false .nils=some (.int .i64 0):=rfl
    refine BE (ax aB mixed [] _ _ _ ?_)
    unfold vJ
    simp only[eB,ag,Nat.reduceAdd,Nat.reduceBEq,Nat.reduceLeDiff,jt]
    refine bU aB mixed [] (fun _:Unit=>True) (fun _=>0) (fun _=>iK .nils (.int .i64 k) (.int .i64 0) [] H) () trivial ⟨by simp[iK,cG,cI],rfl,rfl⟩ ?_
    intro _ _
    simp only[eB,ag,Nat.reduceAdd,Nat.reduceBEq,Nat.reduceLeDiff,jt,iK,L0,show decide ((0:Int)<0)=false from rfl]
    refine⟨rfl,by simp[aG],?_⟩
    first|exact⟨rfl,fun _ _=>rfl,.nil _⟩|exact⟨fun _ _=>trivial,.nil _⟩
  simp only[List.length_map]at hc o ⊢
  have L0:gq false (.gs b g 0 l.length cap 2 ex)=some (.int .i64 l.length):=rfl
  have hbf:b∉fp:=(List.nodup_cons.1 nd).1
  refine BE (ax aB mixed [] _ _ _ ?_)
  unfold vJ
  simp only[eB,ag,Nat.reduceAdd,Nat.reduceBEq,Nat.reduceLeDiff,jt]
  refine bU aB mixed [] (fun y:Nat×AH×List AV×List AV×List Nat×List Nat=>y.1≤l.length∧iF H b g tail fp ae.cd (l.drop y.1) (fj ae.dD ae.aL (l.take y.1) k) y.2.1 y.2.2.1 y.2.2.2.1 y.2.2.2.2.1 y.2.2.2.2.2) (fun y=>l.length-y.1)
    (fun y=>iK (.gs b g 0 l.length cap 2 ex) (.int .i64 (k+aG ae.aL (l.take y.1))) (.int .i64 y.1) [] y.2.1) (0,H,[],as0,[],fp) ⟨by simp,by simpa[fj]using iF.start hg hown⟩ ⟨by simp[iK,cG,cI,aG],rfl,rfl⟩ ?_
  rintro⟨j,H',as1,as2,f1,f2⟩ ⟨hj,iv⟩
  simp only at hj iv
  simp only[eB,ag,Nat.reduceAdd,Nat.reduceBEq,Nat.reduceLeDiff,jt,iK,L0]
  refine aR (fun hlt=>?_) (fun hge=>?_)
  rotate_left
  · have hge:j=l.length:=by simp at hge;omega
    subst hge
    simp only[eB,ag,Nat.reduceAdd,Nat.reduceBEq,Nat.reduceLeDiff,jt]
    rw[List.drop_length,List.take_length]at iv
    rw[List.take_length]
    exact⟨rfl,rfl,iv.done dM (fun _=>rfl) ht hc⟩
  have hlt:j<l.length:=by simpa using hlt
  have htk:=dK ae.aL hlt
  have hle:=gZ (c:=ae.aL) ae.aU hlt
  have hnn:=bt (c:=ae.aL) ae.aU (l.take j)
  have hmt:=lq ae.dD ae.aL hlt k
  rw[List.drop_eq_getElem_cons hlt]at iv
  obtain⟨x,hx⟩:∃x,x=l[j]:=⟨_,rfl⟩
  rw[←hx]at iv
  try rw[←hx]at htk hle
  try rw[←hx]at hmt
  obtain⟨kj,hkj⟩:∃kj,kj=k+aG ae.aL (l.take j):=⟨_,rfl⟩
  rw[←hkj]at hmt
  rw[←hkj]
  have hk0:0≤kj:=by omega
  have hkb:kj+ae.aL x≤9223372036854775000:=by omega
  obtain⟨h1,h2,cs,post,fx,fr,e1,e2,rfl,rfl,q1,q2⟩:=iv.open
  have hfx:∀c∈fx,c≠b:=fun c hc e=>hbf (by rw[iv.fps,←e];simp[hc])
  have ndx:fx.Nodup:=(List.nodup_append.1 (List.nodup_append.1 (iv.fps▸(List.nodup_cons.1 nd).2)).2.1).1
  have hn0:as1.length=j*2:=by rw[iv.o1.len,gX (sz:=2) (fun y _=>rfl),dM,List.length_take,Nat.min_eq_left hj]
  have i0:bN 2 (.gs b g 0 l.length cap 2 ex) (j:Int)=some (.gp b g as1.length):=by rw[fW hlt,hn0,Nat.zero_add]
  have z0:=bt (c:=ah.aL) ah.aU x.methods
  simp only[ae.aL]at hkb
  have hox:=ho _ (List.getElem_mem hlt);rw[←hx]at hox
  simp only[ae.cd,l7,jA,rz,qO,mb]at q1
  obtain⟨_,_,_,_,rfl,e0z,⟨rfl,rfl⟩,⟨a1,_,g1,_,rfl,e1z,u1,⟨rfl,e2z⟩⟩⟩:=q1
  have hfxe:fx=(g1++[]):=by rw[e0z,e1z,e2z];simp
  have ow:aJ H' [a1] [.sl 2 (x.methods.map ah.cd)] fx:=by rw[hfxe];exact(.o u1 .nil)
  obtain⟨c1a,c1b,c1c,c1d⟩:=u1.cell
  have hlen0:=(rfl:H'.length=H'.length)
  have fr0:∀c,c≠b→c∉fx→H'[c]? = H'[c]?:=fun _ _ _=>rfl
  have w0:IntKind.i64.wrap (kj+1)=kj+1:=(aY (by omega) (by omega)).trans (by omega)
  obtain⟨H0,hH0⟩:∃H0,H0=H':=⟨_,rfl⟩
  rw[←hH0]at iv q2 ow fr0 hlen0
  have fr0:∀c,c≠b→c∉fx→H'[c]? = H0[c]?:=fun _ _ _=>by rw[hH0]
  have hlen0:H'.length=H0.length:=by rw[hH0]
  rw[hH0]at ow
  replace e1:H'=h1++some (g,as1++tt [.str x.name,a1] (post++tail))::h2:=e1
  subst e1
  simp only[eB,ag,Nat.reduceAdd,Nat.reduceBEq,Nat.reduceLeDiff,jt,i0,jZ e2 rfl,jP e2 rfl,w0,c1a,c1b,c1c]
  refine an.val (by simp only[EO]) (nK (kj) (by omega) (by omega) _) ?_
  simp only[eB,ag,Nat.reduceAdd,Nat.reduceBEq,Nat.reduceLeDiff,jt,i0,jZ e2 rfl,jP e2 rfl,w0,c1a,c1b,c1c]
  obtain⟨gi1,oi1,ni1,si1,bk1⟩:=aJ.pick (A:=[]) (D:=[]) rfl (ow.frame fun c hc=>jr e2 (hfx c hc)) ndx
  refine an.ref (by simp only[EO,c1d]) (DO x.methods (kj+1) (by omega) (by omega) (hox.2.1) (hox.2.2) _ oi1 ni1) ?_
  rintro _ hn ⟨rfl,hlen1,hfr1,un1⟩
  replace ow:=bk1 hn _ hfr1 un1
  have fr1:∀c,c≠b→c∉fx→hn[c]? = H0[c]?:=fun c h1 h2=>(hfr1 c (fun h=>h2 (si1 c h))).trans ((jr e2 h1).trans (fr0 c h1 h2))
  have hlen1:hn.length=H0.length:=by rw[hlen1];(try rw[←hlen0]);(try simp)
  obtain⟨p1,r1,rfl,eh1⟩:=qe (kP (je e2) (hfr1 b (fun h=>hfx b (si1 b h) rfl)))
  simp only[eB,ag,Nat.reduceAdd,Nat.reduceBEq,Nat.reduceLeDiff,jt,i0,jZ eh1 rfl,jP eh1 rfl,w0,c1a,c1b,c1c]
  refine⟨(j+1,_,as1++[.str (dZ (kj)),a1],post,f1++fx,fr),⟨hlt,?inv⟩,(by simp only;omega),⟨?le,rfl,rfl⟩⟩
  case inv=>
    simp only;rw[hmt]
    replace ow:=ow.frame fun c hc=>jr (x:=some (g,as1++tt [.str (dZ (kj)),a1] (post++tail))) eh1 (hfx c hc)
    obtain⟨F0,R0,E0,O0,hz⟩:=ow
    have hz:R0=[]:=hz
    refine iv.next (y:=ae.dD x kj) nd q2 (by rw[←hlen1];(try simp)) (je eh1) (fun c h1 h2=>(jr eh1 h1).trans (fr1 c h1 h2)) ?_
    rw[E0,hz];exact(.s (.o O0 .nil))
  case le=>
    have hfin:k+aG ae.aL (l.take (j+1))=kj+1+aG ah.aL x.methods:=by rw[htk];simp only[ae.aL];omega
    rw[hfin,wN (by omega)];(try simp[iK,cG,cI])
theorem DE(β:Bool)(l:List aj)(k:Int)(hk:0≤k)(hb:k+aG aj.aL l≤9223372036854775000)(hl:l.length≤1073741824)(ho:∀x∈l,x.ok 1073741824)(h:AH):
    T Tryz.prog Γ Fn.Ju [.vs β 6 false ((fj aj.dD aj.aL l k).map (aj.c β)),.int .i64 k] h fun v h'=>v=.int .i64 (k+aG aj.aL l)∧h'=h:=by
  obtain⟨M,hM⟩:∃M,M=fj aj.dD aj.aL l k:=⟨_,rfl⟩
  have hlen:M.length=l.length:=by rw[hM];exact dM
  rw[←hM]
  have L0:=cr β 6 false M (aj.c β)
  rw[hlen]at L0
  refine D2 (ax aB mixed [] _ _ _ ?_)
  unfold Br
  simp only[eB,ag,Nat.reduceAdd,Nat.reduceBEq,Nat.reduceLeDiff,oL]
  refine bU aB mixed [] (fun j:Nat=>j≤l.length) (fun j=>l.length-j)
    (fun j=>qo (.vs β 6 false (M.map (aj.c β))) (.int .i64 (k+aG aj.aL (l.take j))) (.int .i64 j) [] h) 0 (by omega) ⟨by simp[qo,cG,cI,aG],rfl,rfl⟩ ?_
  intro j hj
  simp only[eB,ag,Nat.reduceAdd,Nat.reduceBEq,Nat.reduceLeDiff,oL,qo,L0]
  refine aR (fun hlt=>?_) (fun hge=>?_)
  rotate_left
  · have hge:j=l.length:=by simp at hge;omega
    subst hge
    simp only[eB,ag,Nat.reduceAdd,Nat.reduceBEq,Nat.reduceLeDiff,oL]
    rw[List.take_length]
    first|exact⟨rfl,rfl⟩|exact rfl
  have hlt:j<l.length:=by simpa using hlt
  have htk:=dK aj.aL hlt
  have hle:=gZ (c:=aj.aL) aj.aU hlt
  have hnn:=bt (c:=aj.aL) aj.aU (l.take j)
  have hg:=kt aj.dD aj.aL hlt k
  have hltM:j<M.length:=by omega
  have i0:=ct (β:=β) (sz:=6) (ex:=false) (ce:=(aj.c β)) hltM
  rw[←hM,List.getElem?_eq_getElem hltM]at hg
  injection hg with hg
  rw[hg]at i0
  obtain⟨x,hx⟩:∃x,x=l[j]:=⟨_,rfl⟩
  try rw[←hx]at i0
  try rw[←hx]at htk hle
  obtain⟨kj,hkj⟩:∃kj,kj=k+aG aj.aL (l.take j):=⟨_,rfl⟩
  rw[←hkj]at i0
  rw[←hkj]
  have hk0:0≤kj:=by omega
  have hkb:kj+aj.aL x≤9223372036854775000:=by omega
  simp only[aj.aL]at hkb
  have hox:=ho _ (List.getElem_mem hlt);rw[←hx]at hox
  have w0:IntKind.i64.wrap (kj+1)=kj+1:=(aY (by omega) (by omega)).trans (by omega)
  have w1:IntKind.i64.wrap (kj+1+1)=kj+2:=(aY (by omega) (by omega)).trans (by omega)
  have w2:IntKind.i64.wrap (kj+2+1)=kj+3:=(aY (by omega) (by omega)).trans (by omega)
  have w3:IntKind.i64.wrap (kj+3+1)=kj+4:=(aY (by omega) (by omega)).trans (by omega)
  have w4:IntKind.i64.wrap (kj+4+1)=kj+5:=(aY (by omega) (by omega)).trans (by omega)
  have w5:IntKind.i64.wrap (kj+5+1)=kj+6:=(aY (by omega) (by omega)).trans (by omega)
  simp only[eB,ag,Nat.reduceAdd,Nat.reduceBEq,Nat.reduceLeDiff,oL,qM,i0,aj.c,aj.dD,bne_self_eq_false,beq_self_eq_true,w0,w1,w2,w3,w4,w5]
  refine an.val (by simp only[EO]) (nK (kj+5) (by omega) (by omega) _) ?_
  simp only[eB,ag,Nat.reduceAdd,Nat.reduceBEq,Nat.reduceLeDiff,oL,qM,i0,aj.c,aj.dD,bne_self_eq_false,beq_self_eq_true,w0,w1,w2,w3,w4,w5]
  have hfin:k+aG aj.aL (l.take (j+1))=kj+6:=by rw[htk];simp only[aj.aL];omega
  exact⟨j+1,hlt,by omega,⟨by rw[hfin,wN (by omega)];(try simp[qo,cG,cI]),rfl,rfl⟩⟩
theorem Hg(β:Bool)(l:List ah)(k:Int)(hk:0≤k)(hb:k+aG ah.aL l≤9223372036854775000)(hl:l.length≤1073741824)(ho:∀x∈l,x.ok 1073741824)(h:AH):
    T Tryz.prog Γ Fn.Jf [.vs β 2 false ((fj ah.dD ah.aL l k).map (ah.c β)),.int .i64 k] h fun v h'=>v=.int .i64 (k+aG ah.aL l)∧h'=h:=by
  obtain⟨M,hM⟩:∃M,M=fj ah.dD ah.aL l k:=⟨_,rfl⟩
  have hlen:M.length=l.length:=by rw[hM];exact dM
  rw[←hM]
  have L0:=cr β 2 false M (ah.c β)
  rw[hlen]at L0
  refine Ej (ax aB mixed [] _ _ _ ?_)
  unfold Cd
  simp only[eB,ag,Nat.reduceAdd,Nat.reduceBEq,Nat.reduceLeDiff,lB]
  refine bU aB mixed [] (fun j:Nat=>j≤l.length) (fun j=>l.length-j)
    (fun j=>p8 (.vs β 2 false (M.map (ah.c β))) (.int .i64 (k+aG ah.aL (l.take j))) (.int .i64 j) [] h) 0 (by omega) ⟨by simp[p8,cG,cI,aG],rfl,rfl⟩ ?_
  intro j hj
  simp only[eB,ag,Nat.reduceAdd,Nat.reduceBEq,Nat.reduceLeDiff,lB,p8,L0]
  refine aR (fun hlt=>?_) (fun hge=>?_)
  rotate_left
  · have hge:j=l.length:=by simp at hge;omega
    subst hge
    simp only[eB,ag,Nat.reduceAdd,Nat.reduceBEq,Nat.reduceLeDiff,lB]
    rw[List.take_length]
    first|exact⟨rfl,rfl⟩|exact rfl
  have hlt:j<l.length:=by simpa using hlt
  have htk:=dK ah.aL hlt
  have hle:=gZ (c:=ah.aL) ah.aU hlt
  have hnn:=bt (c:=ah.aL) ah.aU (l.take j)
  have hg:=kt ah.dD ah.aL hlt k
  have hltM:j<M.length:=by omega
  have i0:=ct (β:=β) (sz:=2) (ex:=false) (ce:=(ah.c β)) hltM
  rw[←hM,List.getElem?_eq_getElem hltM]at hg
  injection hg with hg
  rw[hg]at i0
  obtain⟨x,hx⟩:∃x,x=l[j]:=⟨_,rfl⟩
  try rw[←hx]at i0
  try rw[←hx]at htk hle
  obtain⟨kj,hkj⟩:∃kj,kj=k+aG ah.aL (l.take j):=⟨_,rfl⟩
  rw[←hkj]at i0
  rw[←hkj]
  have hk0:0≤kj:=by omega
  have hkb:kj+ah.aL x≤9223372036854775000:=by omega
  have z0:=bt (c:=aj.aL) aj.aU x.code
  simp only[ah.aL]at hkb
  have hox:=ho _ (List.getElem_mem hlt);rw[←hx]at hox
  have w0:IntKind.i64.wrap (kj+1)=kj+1:=(aY (by omega) (by omega)).trans (by omega)
  have y1:decide (kj+1+aG aj.aL x.code<0)=false:=by simp;omega
  simp only[eB,ag,Nat.reduceAdd,Nat.reduceBEq,Nat.reduceLeDiff,lB,ly,i0,ah.c,ah.dD,bne_self_eq_false,beq_self_eq_true,w0,y1]
  refine an.val (by simp only[EO]) (nK (kj) (by omega) (by omega) _) ?_
  simp only[eB,ag,Nat.reduceAdd,Nat.reduceBEq,Nat.reduceLeDiff,lB,ly,i0,ah.c,ah.dD,bne_self_eq_false,beq_self_eq_true,w0,y1]
  refine an.val (by simp only[EO]) (DE β x.code (kj+1) (by omega) (by omega) (hox.2.1) (hox.2.2) _) ?_
  simp only[eB,ag,Nat.reduceAdd,Nat.reduceBEq,Nat.reduceLeDiff,lB,ly,i0,ah.c,ah.dD,bne_self_eq_false,beq_self_eq_true,w0,y1]
  have hfin:k+aG ah.aL (l.take (j+1))=kj+1+aG aj.aL x.code:=by rw[htk];simp only[ah.aL];omega
  exact⟨j+1,hlt,by omega,⟨by rw[hfin,wN (by omega)];(try simp[p8,cG,cI]),rfl,rfl⟩⟩
theorem zZ(β:Bool)(l:List ae)(k:Int)(hk:0≤k)(hb:k+aG ae.aL l≤9223372036854775000)(hl:l.length≤1073741824)(ho:∀x∈l,x.ok 1073741824)(h:AH):
    T Tryz.prog Γ Fn.It [.vs β 2 false ((fj ae.dD ae.aL l k).map (ae.c β)),.int .i64 k] h fun v h'=>v=.int .i64 (k+aG ae.aL l)∧h'=h:=by
  obtain⟨M,hM⟩:∃M,M=fj ae.dD ae.aL l k:=⟨_,rfl⟩
  have hlen:M.length=l.length:=by rw[hM];exact dM
  rw[←hM]
  have L0:=cr β 2 false M (ae.c β)
  rw[hlen]at L0
  refine GG (ax aB mixed [] _ _ _ ?_)
  unfold AD
  simp only[eB,ag,Nat.reduceAdd,Nat.reduceBEq,Nat.reduceLeDiff,kV]
  refine bU aB mixed [] (fun j:Nat=>j≤l.length) (fun j=>l.length-j)
    (fun j=>pQ (.vs β 2 false (M.map (ae.c β))) (.int .i64 (k+aG ae.aL (l.take j))) (.int .i64 j) [] h) 0 (by omega) ⟨by simp[pQ,cG,cI,aG],rfl,rfl⟩ ?_
  intro j hj
  simp only[eB,ag,Nat.reduceAdd,Nat.reduceBEq,Nat.reduceLeDiff,kV,pQ,L0]
  refine aR (fun hlt=>?_) (fun hge=>?_)
  rotate_left
  · have hge:j=l.length:=by simp at hge;omega
    subst hge
    simp only[eB,ag,Nat.reduceAdd,Nat.reduceBEq,Nat.reduceLeDiff,kV]
    rw[List.take_length]
    first|exact⟨rfl,rfl⟩|exact rfl
  have hlt:j<l.length:=by simpa using hlt
  have htk:=dK ae.aL hlt
  have hle:=gZ (c:=ae.aL) ae.aU hlt
  have hnn:=bt (c:=ae.aL) ae.aU (l.take j)
  have hg:=kt ae.dD ae.aL hlt k
  have hltM:j<M.length:=by omega
  have i0:=ct (β:=β) (sz:=2) (ex:=false) (ce:=(ae.c β)) hltM
  rw[←hM,List.getElem?_eq_getElem hltM]at hg
  injection hg with hg
  rw[hg]at i0
  obtain⟨x,hx⟩:∃x,x=l[j]:=⟨_,rfl⟩
  try rw[←hx]at i0
  try rw[←hx]at htk hle
  obtain⟨kj,hkj⟩:∃kj,kj=k+aG ae.aL (l.take j):=⟨_,rfl⟩
  rw[←hkj]at i0
  rw[←hkj]
  have hk0:0≤kj:=by omega
  have hkb:kj+ae.aL x≤9223372036854775000:=by omega
  have z0:=bt (c:=ah.aL) ah.aU x.methods
  simp only[ae.aL]at hkb
  have hox:=ho _ (List.getElem_mem hlt);rw[←hx]at hox
  have w0:IntKind.i64.wrap (kj+1)=kj+1:=(aY (by omega) (by omega)).trans (by omega)
  have y1:decide (kj+1+aG ah.aL x.methods<0)=false:=by simp;omega
  simp only[eB,ag,Nat.reduceAdd,Nat.reduceBEq,Nat.reduceLeDiff,kV,lT,i0,ae.c,ae.dD,bne_self_eq_false,beq_self_eq_true,w0,y1]
  refine an.val (by simp only[EO]) (nK (kj) (by omega) (by omega) _) ?_
  simp only[eB,ag,Nat.reduceAdd,Nat.reduceBEq,Nat.reduceLeDiff,kV,lT,i0,ae.c,ae.dD,bne_self_eq_false,beq_self_eq_true,w0,y1]
  refine an.val (by simp only[EO]) (Hg β x.methods (kj+1) (by omega) (by omega) (hox.2.1) (hox.2.2) _) ?_
  simp only[eB,ag,Nat.reduceAdd,Nat.reduceBEq,Nat.reduceLeDiff,kV,lT,i0,ae.c,ae.dD,bne_self_eq_false,beq_self_eq_true,w0,y1]
  have hfin:k+aG ae.aL (l.take (j+1))=kj+1+aG ah.aL x.methods:=by rw[htk];simp only[ae.aL];omega
  exact⟨j+1,hlt,by omega,⟨by rw[hfin,wN (by omega)];(try simp[pQ,cG,cI]),rfl,rfl⟩⟩
end Go.Proofs.YtkepagpkphgpeaaGreatDoor
namespace Go.Proofs.YtkepagpkphgpeaaGreatDoor
open Go.AM
variable {Γ:aZ}
theorem c12:cH Tryz.prog Fn.JH:=⟨Tryz.f12,aD Tryz.f12,Tryz.func12,by kernel_rfl,by kernel_rfl⟩
theorem Hn(hΓ:fP Γ)(h:AH):T Tryz.prog Γ Fn.JH [] h fun v h'=>v=.str (tb cD)∧h'=h:=by
  refine⟨c12,fun ρ w cargs r gg ra=>?_⟩
  obtain rfl:cargs=[]:=List.length_eq_zero_iff.1 ra.1.symm
  obtain⟨m,hm⟩:=zO hΓ gg r
  refine(jm m w hm).mono ?_
  rintro e w' ⟨rfl,hb⟩
  exact⟨_,_,ρ,h,rfl,.str _ _,r.below hb,.below hb,rfl,rfl⟩
set_option maxRecDepth 100000 in
theorem D1(h:AH):T Tryz.prog Γ Fn.Ix [] h fun v h'=>v=.str (tb cD)∧h'=h:=by
  show T Tryz.prog Γ Fn.Ix [] h fun v h'=>v=.str ⟨cD.toArray⟩∧h'=h
  refine DY (ax aB mixed [] _ _ _ ?_)
  unfold BC
  simp only[EZ,ag,Nat.reduceAdd,Nat.reduceBEq,zN]
  first|exact⟨rfl,rfl⟩|exact rfl
theorem FD(h:AH):T Tryz.prog Γ Fn.Iu [] h (ca h [.c (.sl 2 (de.map ae.cd))]):=by
  refine T.qp ?_
  refine Fi (ax aB mixed [] _ _ _ ?_)
  unfold Av
  simp only[EZ,ag,Nat.reduceAdd,Nat.reduceBEq,tR]
  refine an.val (by simp only[EO]) (D1 _) ?_
  simp only[EZ,ag,Nat.reduceAdd,Nat.reduceBEq,tR]
  refine an.ref (by simp only[EO]) (FW _) ?_
  rintro v H fr
  replace fr:ca h _ _ _:=fr
  obtain⟨a,fp,rfl,o,nd,hb,ex⟩:=fr.c2 rfl
  simp only[EZ,ag,Nat.reduceAdd,Nat.reduceBEq,tR,ER]
  obtain⟨N,rfl⟩:=ex.out
  exact⟨o.fO,N,fp,rfl,o,nd,hb⟩
theorem Bj(hΓ:fP Γ)(h:AH):T Tryz.prog Γ Fn.GI [] h (ca h [.c (.sl 2 (de.map ae.cd))]):=by
  refine T.qp ?_
  refine Fh (ax aB mixed [] _ _ _ ?_)
  unfold Bz
  simp only[EZ,ag,Nat.reduceAdd,Nat.reduceBEq,sU]
  refine an.val (by simp only[EO]) (Hn hΓ _) ?_
  simp only[EZ,ag,Nat.reduceAdd,Nat.reduceBEq,sU]
  refine an.ref (by simp only[EO]) (GZ hΓ (fun h=>DQ hΓ h) _) ?_
  rintro v H fr
  replace fr:ca h _ _ _:=fr
  obtain⟨a,fp,rfl,o,nd,hb,ex⟩:=fr.c2 rfl
  simp only[EZ,ag,Nat.reduceAdd,Nat.reduceBEq,sU,ER]
  obtain⟨N,rfl⟩:=ex.out
  exact⟨o.fO,N,fp,rfl,o,nd,hb⟩
theorem Gx(h:AH):T Tryz.prog Γ Fn.Iu [] h fun v h'=>v=.vs false 2 false (de.map (ae.c false))∧h'=h:=by
  have:=(FD (Γ:=Γ) h).frozen
  simpa only[List.map_cons,List.map_nil,sQ,tB,Gp,Hp,CD.df,CD.eX,CD.fu,CD.eU,List.map_map,Function.comp_def,ae.cS]using this
theorem Gy(hΓ:fP Γ)(h:AH):T Tryz.prog Γ Fn.GI [] h fun v h'=>v=.vs false 2 false (de.map (ae.c false))∧h'=h:=by
  have:=(Bj hΓ h).frozen
  simpa only[List.map_cons,List.map_nil,sQ,tB,Gp,Hp,CD.df,CD.eX,CD.fu,CD.eU,List.map_map,Function.comp_def,ae.cS]using this
theorem yH:0≤aG ae.aL de∧aG ae.aL de≤1000000:=by
  have:decide (0≤aG ae.aL de∧aG ae.aL de≤1000000)=true:=by decide +kernel
  simpa using this
theorem iz(hΓ:fP Γ)(h:AH):T Tryz.prog Γ Fn.JU [] h fun v h'=>v=.bool true∧h'=h:=by
  have ln:de.length≤1073741824:=by rw[kU];omega
  have lo:∀x∈de,x.ok 1073741824:=fun x hx=>(jg x hx).ok.mono (by omega)
  obtain⟨cn0,cn1⟩:=yH
  refine T.yes ?_
  refine FJ (ax aB mixed [] _ _ _ ?_)
  unfold Cf
  simp only[EZ,ag,Nat.reduceAdd,Nat.reduceBEq,hZ,aT,ER,bne_self_eq_false,beq_self_eq_true,decide_true]
  refine an.val (by simp only[EO]) (Gx _) ?_
  simp only[EZ,ag,Nat.reduceAdd,Nat.reduceBEq,hZ,aT,ER,bne_self_eq_false,beq_self_eq_true,decide_true]
  refine an.ref (by simp only[EO]) (Bj hΓ _) ?_
  rintro g H3 fr
  replace fr:ca h _ _ _:=fr
  obtain⟨f_g,o_g,n_g,b_g,xh⟩:=fr.c1
  obtain⟨cga,cgb,cgc,cgd⟩:=o_g.cell
  simp only[EZ,ag,Nat.reduceAdd,Nat.reduceBEq,hZ,aT,ER,bne_self_eq_false,beq_self_eq_true,decide_true,cga,cgb,cgc]
  refine an.jB (by simp only[EO,cgd]) (b6 (bM.jB (ae.cS true) o_g) (b6 (.same _) dC)) (fun h=>Ck true false de de (by omega) lo h) (.bool _) ?_
  simp only[EZ,ag,Nat.reduceAdd,Nat.reduceBEq,hZ,aT,ER,bne_self_eq_false,beq_self_eq_true,decide_true,cga,cgb,cgc]
  refine an.ref (by simp only[EO,cgd]) (FX de (1) (by omega) (by omega) (by omega) lo _ o_g n_g) ?_
  rintro _ H6 ⟨rfl,hl,hf,o_g⟩
  replace hl:H6.length=H3.length:=hl
  replace hf:∀c,c∉f_g→H6[c]? = H3[c]?:=hf
  replace xh:=xh.mark hl hf b_g
  simp only[EZ,ag,Nat.reduceAdd,Nat.reduceBEq,hZ,aT,ER,bne_self_eq_false,beq_self_eq_true,decide_true,cga,cgb,cgc]
  have ym:decide (1+aG ae.aL de<0)=false:=decide_eq_false (by omega)
  refine an.jB (by simp only[EO,cgd]) (b6 (bM.jB (ae.cS true) o_g) (b6 (.same _) dC)) (fun h=>zZ true de 1 (by omega) (by omega) (by omega) lo h) (.int _ _) ?_
  simp only[EZ,ag,Nat.reduceAdd,Nat.reduceBEq,hZ,aT,ER,bne_self_eq_false,beq_self_eq_true,decide_true,cga,cgb,cgc,ym]
  refine an.val (by simp only[EO]) (Gy hΓ _) ?_
  simp only[EZ,ag,Nat.reduceAdd,Nat.reduceBEq,hZ,aT,ER,bne_self_eq_false,beq_self_eq_true,decide_true,cga,cgb,cgc,ym]
  refine an.val (by simp only[EO]) (Ck false false de de (by omega) lo _) ?_
  simp only[EZ,ag,Nat.reduceAdd,Nat.reduceBEq,hZ,aT,ER,bne_self_eq_false,beq_self_eq_true,decide_true,cga,cgb,cgc,ym]
  refine an.jB (by simp only[EO,cgd]) (b6 (bM.jB (ae.cS true) o_g) (b6 (.same _) dC)) (fun h=>zZ true de 1 (by omega) (by omega) (by omega) lo h) (.int _ _) ?_
  simp only[EZ,ag,Nat.reduceAdd,Nat.reduceBEq,hZ,aT,ER,bne_self_eq_false,beq_self_eq_true,decide_true,cga,cgb,cgc,ym]
  first|exact⟨rfl,xh.out⟩|exact xh.out|exact⟨rfl,rfl,xh.out⟩
end Go.Proofs.YtkepagpkphgpeaaGreatDoor
