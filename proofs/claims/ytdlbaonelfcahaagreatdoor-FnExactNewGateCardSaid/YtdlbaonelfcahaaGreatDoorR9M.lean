import Derived.Test.YtdlbaonelfcahaaGreatDoorR9H
import Derived.Test.YtdlbaonelfcahaaGreatDoorAmG10
set_option linter.unusedVariables false
set_option linter.unusedSimpArgs false
namespace Go.Proofs.YtdlbaonelfcahaaGreatDoor
open Go.AM
set_option maxHeartbeats 1000000
theorem cq:type_of% (And.intro EV (And.intro EL (And.intro EB (And.intro EF (And.intro EM (And.intro @Bool.false_eq_true (And.intro @Bool.not_true (And.intro @Bool.not_false (And.intro @Ev (And.intro @D0 (And.intro @Ds (And.intro @if_true.{1} (And.intro @if_false.{1} (@Option.bind_some.{0,0})))))))))))))):=And.intro EV (And.intro EL (And.intro EB (And.intro EF (And.intro EM (And.intro @Bool.false_eq_true (And.intro @Bool.not_true (And.intro @Bool.not_false (And.intro @Ev (And.intro @D0 (And.intro @Ds (And.intro @if_true.{1} (And.intro @if_false.{1} (@Option.bind_some.{0,0})))))))))))))
variable {Γ:bG}
theorem yO(k:Int)(hk:0≤k)(hb:k≤9223372036854775000)(h:AH):T Tryz.prog Γ Fn.Ei [.int .i64 k] h fun v h'=>v=.str (hO k)∧h'=h:=by
  refine(?_:T Tryz.prog Γ Fn.Ei _ h fun v h'=>v=.str (hO k)∧∃N,h'=h++N).drop (by rintro v h' ⟨rfl,N,rfl⟩;exact⟨N,rfl,.str _,rfl,rfl⟩)
  refine MI (au aF mixed [] _ _ _ ?_)
  unfold Jy
  simp only[cq,ah,Nat.reduceAdd,Nat.reduceBEq,Nat.reduceLeDiff,nO]
  by_cases h0:k≤0
  · simp only[cq,ah,Nat.reduceAdd,Nat.reduceBEq,Nat.reduceLeDiff,nO,decide_eq_true h0]
    exact⟨rfl,by rw[hO,if_pos h0],[],by simp⟩
  simp only[cq,ah,Nat.reduceAdd,Nat.reduceBEq,Nat.reduceLeDiff,nO,decide_eq_false h0]
  have hm:hO k=⟨#[109]⟩++xi k.toNat ⟨#[]⟩:=by rw[hO,if_neg h0]
  refine bD aF mixed [] (fun x:Nat×ByteArray×AH=>xi k.toNat ⟨#[]⟩=xi x.1 x.2.1∧x.1+x.2.1.size≤9223372036854775000∧∃N,x.2.2=h++N) (fun x=>x.1)
    (fun x=>uW (.int .i64 x.1) (.str x.2.1) [] x.2.2) (k.toNat,⟨#[]⟩,h) ⟨rfl,(by simp only[show(ByteArray.mk #[]).size=0 from rfl];omega),[],by simp⟩ ⟨by
      have:((k.toNat:Nat):Int)=k:=by omega
      simp[uW,cj,ck,this],rfl,rfl⟩ ?_
  rintro⟨n,s,H⟩ ⟨hI,hs,N,hN⟩
  simp only at hI hs hN
  simp only[cq,ah,Nat.reduceAdd,Nat.reduceBEq,Nat.reduceLeDiff,uW]
  by_cases hn:(0:Int)<(n:Int)
  rotate_left
  · have:n=0:=by omega
    subst this
    have e0:xi 0 s=s:=by unfold xi;rw[dif_pos rfl]
    have ead:bU .add .num (.str ⟨#[109]⟩) (.str s)=some (.str (⟨#[109]⟩++s)):=by
      have:(ByteArray.mk #[109]).size=1:=rfl
      have:IntKind.i64.max=9223372036854775807:=rfl
      simp only[bU];rw[if_neg];omega
    simp only[cq,ah,Nat.reduceAdd,Nat.reduceBEq,Nat.reduceLeDiff,nO,decide_eq_false hn,ead]
    exact⟨rfl,by rw[hm,hI,e0],N,hN⟩
  have hnp:0<n:=by omega
  have er:bU .rem .num (.int .i64 (n:Int)) (.int .i64 10)=some (.int .i64 ((n % 10:Nat):Int)):=by
    simp only[bU,fh,if_true];rw[if_neg (by decide)];simp[Int.tmod_eq_emod_of_nonneg]
  have eq:bU .quo .num (.int .i64 (n:Int)) (.int .i64 10)=some (.int .i64 ((n / 10:Nat):Int)):=by
    simp only[bU,fh,if_true];rw[if_neg (by decide),Int.tdiv_eq_ediv_of_nonneg (by omega),aI (by omega) (by omega)];simp
  have ew:IntKind.i64.wrap (48+((n % 10:Nat):Int))=((48+n % 10:Nat):Int):=by rw[aI (by omega) (by omega)];simp
  have ec:IntKind.u8.wrap ((48+n % 10:Nat):Int)=((48+n % 10:Nat):Int):=by
    simp[IntKind.wrap,IntKind.bits,IntKind.signed];omega
  have pz:∀(gl:Bool) (s:St) (x:X) (m:Int),s.eval Γ x=.int .i64 m→AM.step Γ gl s (.cvi .u8 x)=.val (.int .u8 (IntKind.u8.wrap m)) s:=fun gl s x m e=>by simp only[AM.step,e]
  have yB:∀(gl:Bool) (e:List AV) (l:List (List AV)) (c:Nat),(St.mk e l (H++[some (0,[.int .u8 (c:Int)])])).eval Γ (.t 12)=.gs H.length 0 0 1 1 1 true→AM.step Γ gl (St.mk e l (H++[some (0,[.int .u8 (c:Int)])])) (.cvt (.t 12))=.val (.str ⟨#[UInt8.ofNat c]⟩) (St.mk e l (H++[some (0,[.int .u8 (c:Int)])])):=fun gl e l c he=>by
    simp only[AM.step,he,St.bl,if_true,bC,Option.bind_some]
    simp[sub,cn,AR.eI]
  have ead:∀c:UInt8,bU .add .num (.str ⟨#[c]⟩) (.str s)=some (.str (⟨#[c]⟩++s)):=fun c=>by
    have:(ByteArray.mk #[c]).size=1:=rfl
    have:IntKind.i64.max=9223372036854775807:=rfl
    simp only[bU];rw[if_neg];omega
  have hcv:∀(e:List AV) (l:List (List AV)) (h:AH) (gl:Bool) (x:X) (m:Int),(St.mk e l h).eval Γ x=.int .i64 m→AM.step Γ gl (St.mk e l h) (.cvi .u8 x)=.val (.int .u8 (IntKind.u8.wrap m)) (St.mk e l h):=fun e l h gl x m he=>pz gl _ x m he
  simp only[cq,ah,Nat.reduceAdd,Nat.reduceBEq,Nat.reduceLeDiff,nO,decide_eq_true hn,er,eq,ew]
  rw[hcv _ _ _ _ _ _ rfl,ec]
  simp only[cq,ah,Nat.reduceAdd,Nat.reduceBEq,Nat.reduceLeDiff,nO,List.replicate,List.flatten_cons,List.flatten_nil,AN,AL,Nat.zero_mul,J6 _ _ _ _ _ _ (show List.all [AV.int .u8 ((48+n % 10:Nat):Int)] bk=true from rfl)]
  rw[yB _ _ _ _ rfl]
  simp only[cq,ah,Nat.reduceAdd,Nat.reduceBEq,Nat.reduceLeDiff,nO,ead,eq]
  refine⟨(n / 10,⟨#[UInt8.ofNat (48+n % 10)]⟩++s,H++[some (0,[.int .u8 ((48+n % 10:Nat):Int)])]),⟨?_,?_,N++_,by simp only;rw[hN,List.append_assoc]⟩,by simp only;omega,⟨by simp[uW,cj,ck],rfl,rfl⟩⟩
  · simp only;rw[hI];conv=>lhs;unfold xi
    rw[dif_neg (by omega)]
  · simp only[ByteArray.size_append]
    have:(ByteArray.mk #[UInt8.ofNat (48+n % 10)]).size=1:=rfl
    omega
theorem Gf(l:List ae)(k:Int)(hk:0≤k)(hb:k+ar ae.aC l≤9223372036854775000)(hl:l.length≤1073741824)(H:AH){a:AV}{fp:List Nat}(o:bO H a (.sl 2 (l.map ae.cd)) fp)(nd:fp.Nodup):
    T Tryz.prog Γ Fn.UG [a,.int .i64 k] H fun v h'=>v=.int .i64 (k+ar ae.aC l)∧(h'.length=H.length∧(∀c,c∉fp→h'[c]? = H[c]?)∧bO h' a (.sl 2 ((dF ae.cA ae.aC l k).map ae.cd)) fp):=by
  rcases o.fj with⟨rfl,e,rfl⟩|⟨b,g,cap,ex,as0,tail,fp,rfl,rfl,hg,hsz,ht,hc,hown⟩
  · have e:l=[]:=by simpa using e
    subst e
    have L0:fu false .nils=some (.int .i64 0):=rfl
    refine FU (au aF mixed [] _ _ _ ?_)
    unfold Bm
    simp only[cq,ah,Nat.reduceAdd,Nat.reduceBEq,Nat.reduceLeDiff,pC]
    refine bD aF mixed [] (fun _:Unit=>True) (fun _=>0) (fun _=>kV .nils (.int .i64 k) (.int .i64 0) [] H) () trivial ⟨by simp[kV,cj,ck],rfl,rfl⟩ ?_
    intro _ _
    simp only[cq,ah,Nat.reduceAdd,Nat.reduceBEq,Nat.reduceLeDiff,pC,kV,L0,show decide ((0:Int)<0)=false from rfl]
    refine⟨rfl,by simp[ar],?_⟩
    first|exact⟨rfl,fun _ _=>rfl,.nil _⟩|exact⟨fun _ _=>trivial,.nil _⟩
  simp only[List.length_map]at hc o ⊢
  have L0:fu false (.gs b g 0 l.length cap 2 ex)=some (.int .i64 l.length):=rfl
  have hbf:b∉fp:=(List.nodup_cons.1 nd).1
  refine FU (au aF mixed [] _ _ _ ?_)
  unfold Bm
  simp only[cq,ah,Nat.reduceAdd,Nat.reduceBEq,Nat.reduceLeDiff,pC]
  refine bD aF mixed [] (fun y:Nat×AH×List AV×List AV×List Nat×List Nat=>y.1≤l.length∧ga H b g tail fp ae.cd (l.drop y.1) (dF ae.cA ae.aC (l.take y.1) k) y.2.1 y.2.2.1 y.2.2.2.1 y.2.2.2.2.1 y.2.2.2.2.2) (fun y=>l.length-y.1)
    (fun y=>kV (.gs b g 0 l.length cap 2 ex) (.int .i64 (k+ar ae.aC (l.take y.1))) (.int .i64 y.1) [] y.2.1) (0,H,[],as0,[],fp) ⟨by simp,by simpa[dF]using ga.start hg hown⟩ ⟨by simp[kV,cj,ck,ar],rfl,rfl⟩ ?_
  rintro⟨j,H',as1,as2,f1,f2⟩ ⟨hj,iv⟩
  simp only at hj iv
  simp only[cq,ah,Nat.reduceAdd,Nat.reduceBEq,Nat.reduceLeDiff,pC,kV,L0]
  refine ba (fun hlt=>?_) (fun hge=>?_)
  rotate_left
  · have hge:j=l.length:=by simp at hge;omega
    subst hge
    simp only[cq,ah,Nat.reduceAdd,Nat.reduceBEq,Nat.reduceLeDiff,pC]
    rw[List.drop_length,List.take_length]at iv
    rw[List.take_length]
    exact⟨rfl,rfl,iv.done ca (fun _=>rfl) ht hc⟩
  have hlt:j<l.length:=by simpa using hlt
  have htk:=cg ae.aC hlt
  have hle:=dy (c:=ae.aC) ae.aP hlt
  have hnn:=aT (c:=ae.aC) ae.aP (l.take j)
  have hmt:=fK ae.cA ae.aC hlt k
  rw[List.drop_eq_getElem_cons hlt]at iv
  obtain⟨x,hx⟩:∃x,x=l[j]:=⟨_,rfl⟩
  rw[←hx]at iv
  try rw[←hx]at htk hle
  try rw[←hx]at hmt
  obtain⟨kj,hkj⟩:∃kj,kj=k+ar ae.aC (l.take j):=⟨_,rfl⟩
  rw[←hkj]at hmt
  rw[←hkj]
  have hk0:0≤kj:=by omega
  have hkb:kj+ae.aC x≤9223372036854775000:=by omega
  obtain⟨h1,h2,cs,post,fx,fr,e1,e2,rfl,rfl,q1,q2⟩:=iv.open
  have hfx:∀c∈fx,c≠b:=fun c hc e=>hbf (by rw[iv.fps,←e];simp[hc])
  have ndx:fx.Nodup:=(List.nodup_append.1 (List.nodup_append.1 (iv.fps▸(List.nodup_cons.1 nd).2)).2.1).1
  have hn0:as1.length=j*2:=by rw[iv.o1.len,cY (sz:=2) (fun y _=>rfl),ca,List.length_take,Nat.min_eq_left hj]
  have i0:cm 2 (.gs b g 0 l.length cap 2 ex) (j:Int)=some (.gp b g as1.length):=by rw[fo hlt,hn0,Nat.zero_add]
  simp only[ae.aC]at hkb
  simp only[ae.cd,cT,cO,dU,dT,dM]at q1
  obtain⟨_,_,_,_,rfl,e0z,⟨rfl,rfl⟩,⟨_,_,_,_,rfl,e1z,⟨rfl,rfl⟩,⟨rfl,e2z⟩⟩⟩:=q1
  have hfxe:fx=[]:=by rw[e0z,e1z,e2z];simp
  have ow:aV H' [] [] fx:=by rw[hfxe];exact .nil
  have hlen0:=(rfl:H'.length=H'.length)
  have fr0:∀c,c≠b→c∉fx→H'[c]? = H'[c]?:=fun _ _ _=>rfl
  have w0:IntKind.i64.wrap (kj+1)=kj+1:=(aI (by omega) (by omega)).trans (by omega)
  have w1:IntKind.i64.wrap (kj+1+1)=kj+2:=(aI (by omega) (by omega)).trans (by omega)
  obtain⟨H0,hH0⟩:∃H0,H0=H':=⟨_,rfl⟩
  rw[←hH0]at iv q2 ow fr0 hlen0
  have fr0:∀c,c≠b→c∉fx→H'[c]? = H0[c]?:=fun _ _ _=>by rw[hH0]
  have hlen0:H'.length=H0.length:=by rw[hH0]
  rw[hH0]at ow
  replace e1:H'=h1++some (g,as1++qI [.int .i64 x.kind,.int .i64 x.n] (post++tail))::h2:=e1
  subst e1
  simp only[cq,ah,Nat.reduceAdd,Nat.reduceBEq,Nat.reduceLeDiff,pC,i0,fR e2 rfl,fP e2 rfl,w0,w1]
  refine⟨(j+1,_,as1++[.int .i64 (kj),.int .i64 (kj+1)],post,f1++[],fr),⟨hlt,?inv⟩,(by simp only;omega),⟨?le,rfl,rfl⟩⟩
  case inv=>
    simp only;rw[hmt]
    subst hfxe
    exact iv.next (y:=ae.cA x kj) nd q2 (by rw[←hlen0];(try simp)) (dC e2) (fun c h1 h2=>(dB e2 h1).trans (fr0 c h1 h2)) (.i (.i .nil))
  case le=>
    have hfin:k+ar ae.aC (l.take (j+1))=kj+2:=by rw[htk];simp only[ae.aC];omega
    rw[hfin,wN (by omega)];(try simp[kV,cj,ck])
theorem FX(l:List aA)(k:Int)(hk:0≤k)(hb:k+ar aA.aC l≤9223372036854775000)(hl:l.length≤1073741824)(ho:∀x∈l,x.ok 1073741824)(H:AH){a:AV}{fp:List Nat}(o:bO H a (.sl 7 (l.map aA.cd)) fp)(nd:fp.Nodup):
    T Tryz.prog Γ Fn.VA [a,.int .i64 k] H fun v h'=>v=.int .i64 (k+ar aA.aC l)∧(h'.length=H.length∧(∀c,c∉fp→h'[c]? = H[c]?)∧bO h' a (.sl 7 ((dF aA.cA aA.aC l k).map aA.cd)) fp):=by
  rcases o.fj with⟨rfl,e,rfl⟩|⟨b,g,cap,ex,as0,tail,fp,rfl,rfl,hg,hsz,ht,hc,hown⟩
  · have e:l=[]:=by simpa using e
    subst e
    have L0:fu false .nils=some (.int .i64 0):=rfl
    refine G7 (au aF mixed [] _ _ _ ?_)
    unfold Bh
    simp only[cq,ah,Nat.reduceAdd,Nat.reduceBEq,Nat.reduceLeDiff,lX]
    refine bD aF mixed [] (fun _:Unit=>True) (fun _=>0) (fun _=>kQ .nils (.int .i64 k) (.int .i64 0) [] H) () trivial ⟨by simp[kQ,cj,ck],rfl,rfl⟩ ?_
    intro _ _
    simp only[cq,ah,Nat.reduceAdd,Nat.reduceBEq,Nat.reduceLeDiff,lX,kQ,L0,show decide ((0:Int)<0)=false from rfl]
    refine⟨rfl,by simp[ar],?_⟩
    first|exact⟨rfl,fun _ _=>rfl,.nil _⟩|exact⟨fun _ _=>trivial,.nil _⟩
  simp only[List.length_map]at hc o ⊢
  have L0:fu false (.gs b g 0 l.length cap 7 ex)=some (.int .i64 l.length):=rfl
  have hbf:b∉fp:=(List.nodup_cons.1 nd).1
  refine G7 (au aF mixed [] _ _ _ ?_)
  unfold Bh
  simp only[cq,ah,Nat.reduceAdd,Nat.reduceBEq,Nat.reduceLeDiff,lX]
  refine bD aF mixed [] (fun y:Nat×AH×List AV×List AV×List Nat×List Nat=>y.1≤l.length∧ga H b g tail fp aA.cd (l.drop y.1) (dF aA.cA aA.aC (l.take y.1) k) y.2.1 y.2.2.1 y.2.2.2.1 y.2.2.2.2.1 y.2.2.2.2.2) (fun y=>l.length-y.1)
    (fun y=>kQ (.gs b g 0 l.length cap 7 ex) (.int .i64 (k+ar aA.aC (l.take y.1))) (.int .i64 y.1) [] y.2.1) (0,H,[],as0,[],fp) ⟨by simp,by simpa[dF]using ga.start hg hown⟩ ⟨by simp[kQ,cj,ck,ar],rfl,rfl⟩ ?_
  rintro⟨j,H',as1,as2,f1,f2⟩ ⟨hj,iv⟩
  simp only at hj iv
  simp only[cq,ah,Nat.reduceAdd,Nat.reduceBEq,Nat.reduceLeDiff,lX,kQ,L0]
  refine ba (fun hlt=>?_) (fun hge=>?_)
  rotate_left
  · have hge:j=l.length:=by simp at hge;omega
    subst hge
    simp only[cq,ah,Nat.reduceAdd,Nat.reduceBEq,Nat.reduceLeDiff,lX]
    rw[List.drop_length,List.take_length]at iv
    rw[List.take_length]
    exact⟨rfl,rfl,iv.done ca (fun _=>rfl) ht hc⟩
  have hlt:j<l.length:=by simpa using hlt
  have htk:=cg aA.aC hlt
  have hle:=dy (c:=aA.aC) aA.aP hlt
  have hnn:=aT (c:=aA.aC) aA.aP (l.take j)
  have hmt:=fK aA.cA aA.aC hlt k
  rw[List.drop_eq_getElem_cons hlt]at iv
  obtain⟨x,hx⟩:∃x,x=l[j]:=⟨_,rfl⟩
  rw[←hx]at iv
  try rw[←hx]at htk hle
  try rw[←hx]at hmt
  obtain⟨kj,hkj⟩:∃kj,kj=k+ar aA.aC (l.take j):=⟨_,rfl⟩
  rw[←hkj]at hmt
  rw[←hkj]
  have hk0:0≤kj:=by omega
  have hkb:kj+aA.aC x≤9223372036854775000:=by omega
  obtain⟨h1,h2,cs,post,fx,fr,e1,e2,rfl,rfl,q1,q2⟩:=iv.open
  have hfx:∀c∈fx,c≠b:=fun c hc e=>hbf (by rw[iv.fps,←e];simp[hc])
  have ndx:fx.Nodup:=(List.nodup_append.1 (List.nodup_append.1 (iv.fps▸(List.nodup_cons.1 nd).2)).2.1).1
  have hn0:as1.length=j*7:=by rw[iv.o1.len,cY (sz:=7) (fun y _=>rfl),ca,List.length_take,Nat.min_eq_left hj]
  have i0:cm 7 (.gs b g 0 l.length cap 7 ex) (j:Int)=some (.gp b g as1.length):=by rw[fo hlt,hn0,Nat.zero_add]
  have z0:=aT (c:=ae.aC) ae.aP x.args
  simp only[aA.aC]at hkb
  have hox:=ho _ (List.getElem_mem hlt);rw[←hx]at hox
  simp only[aA.cd,cT,cO,dU,dT,dM]at q1
  obtain⟨_,_,_,_,rfl,e0z,⟨rfl,rfl⟩,⟨_,_,_,_,rfl,e1z,⟨rfl,rfl⟩,⟨a2,_,g2,_,rfl,e2z,u2,⟨_,_,_,_,rfl,e3z,⟨rfl,rfl⟩,⟨_,_,_,_,rfl,e4z,⟨rfl,rfl⟩,⟨_,_,_,_,rfl,e5z,⟨rfl,rfl⟩,⟨_,_,_,_,rfl,e6z,⟨rfl,rfl⟩,⟨rfl,e7z⟩⟩⟩⟩⟩⟩⟩⟩:=q1
  have hfxe:fx=(g2++[]):=by rw[e0z,e1z,e2z,e3z,e4z,e5z,e6z,e7z];simp
  have ow:aV H' [a2] [.sl 2 (x.args.map ae.cd)] fx:=by rw[hfxe];exact(.o u2 .nil)
  obtain⟨c2a,c2b,c2c,c2d⟩:=u2.cell
  have hlen0:=(rfl:H'.length=H'.length)
  have fr0:∀c,c≠b→c∉fx→H'[c]? = H'[c]?:=fun _ _ _=>rfl
  have w0:IntKind.i64.wrap (kj+1)=kj+1:=(aI (by omega) (by omega)).trans (by omega)
  have w1:IntKind.i64.wrap (kj+1+1)=kj+2:=(aI (by omega) (by omega)).trans (by omega)
  have w3:IntKind.i64.wrap (kj+2+ar ae.aC x.args+1)=kj+3+ar ae.aC x.args:=(aI (by omega) (by omega)).trans (by omega)
  have w4:IntKind.i64.wrap (kj+3+ar ae.aC x.args+1)=kj+4+ar ae.aC x.args:=(aI (by omega) (by omega)).trans (by omega)
  have w5:IntKind.i64.wrap (kj+4+ar ae.aC x.args+1)=kj+5+ar ae.aC x.args:=(aI (by omega) (by omega)).trans (by omega)
  have w6:IntKind.i64.wrap (kj+5+ar ae.aC x.args+1)=kj+6+ar ae.aC x.args:=(aI (by omega) (by omega)).trans (by omega)
  obtain⟨H0,hH0⟩:∃H0,H0=H':=⟨_,rfl⟩
  rw[←hH0]at iv q2 ow fr0 hlen0
  have fr0:∀c,c≠b→c∉fx→H'[c]? = H0[c]?:=fun _ _ _=>by rw[hH0]
  have hlen0:H'.length=H0.length:=by rw[hH0]
  rw[hH0]at ow
  replace e1:H'=h1++some (g,as1++qI [.int .i64 x.target,.str x.name,a2,.int .i64 x.result,.int .i64 x.tag.vat,.int .i64 x.tag.entity,.int .i64 x.tag.seq] (post++tail))::h2:=e1
  subst e1
  simp only[cq,ah,Nat.reduceAdd,Nat.reduceBEq,Nat.reduceLeDiff,lX,i0,fR e2 rfl,fP e2 rfl,w0,w1,w3,w4,w5,w6,c2a,c2b,c2c]
  refine aq.val (by simp only[EO]) (yO (kj+1) (by omega) (by omega) _) ?_
  simp only[cq,ah,Nat.reduceAdd,Nat.reduceBEq,Nat.reduceLeDiff,lX,i0,fR e2 rfl,fP e2 rfl,w0,w1,w3,w4,w5,w6,c2a,c2b,c2c]
  obtain⟨gi1,oi1,ni1,si1,bk1⟩:=aV.pick (A:=[]) (D:=[]) rfl (ow.frame fun c hc=>dB e2 (hfx c hc)) ndx
  refine aq.ref (by simp only[EO,c2d]) (Gf x.args (kj+2) (by omega) (by omega) (hox.2) _ oi1 ni1) ?_
  rintro _ hn ⟨rfl,hlen1,hfr1,un1⟩
  replace ow:=bk1 hn _ hfr1 un1
  have fr1:∀c,c≠b→c∉fx→hn[c]? = H0[c]?:=fun c h1 h2=>(hfr1 c (fun h=>h2 (si1 c h))).trans ((dB e2 h1).trans (fr0 c h1 h2))
  have hlen1:hn.length=H0.length:=by rw[hlen1];(try rw[←hlen0]);(try simp)
  obtain⟨p1,r1,rfl,eh1⟩:=gP (eU (dC e2) (hfr1 b (fun h=>hfx b (si1 b h) rfl)))
  simp only[cq,ah,Nat.reduceAdd,Nat.reduceBEq,Nat.reduceLeDiff,lX,i0,fR eh1 rfl,fP eh1 rfl,w0,w1,w3,w4,w5,w6,c2a,c2b,c2c]
  refine⟨(j+1,_,as1++[.int .i64 (kj),.str (hO (kj+1)),a2,.int .i64 (kj+2+ar ae.aC x.args),.int .i64 (kj+3+ar ae.aC x.args),.int .i64 (kj+4+ar ae.aC x.args),.int .i64 (kj+5+ar ae.aC x.args)],post,f1++fx,fr),⟨hlt,?inv⟩,(by simp only;omega),⟨?le,rfl,rfl⟩⟩
  case inv=>
    simp only;rw[hmt]
    replace ow:=ow.frame fun c hc=>dB (x:=some (g,as1++qI [.int .i64 (kj),.str (hO (kj+1)),a2,.int .i64 (kj+2+ar ae.aC x.args),.int .i64 (kj+3+ar ae.aC x.args),.int .i64 (kj+4+ar ae.aC x.args),.int .i64 (kj+5+ar ae.aC x.args)] (post++tail))) eh1 (hfx c hc)
    obtain⟨F0,R0,E0,O0,hz⟩:=ow
    have hz:R0=[]:=hz
    refine iv.next (y:=aA.cA x kj) nd q2 (by rw[←hlen1];(try simp)) (dC eh1) (fun c h1 h2=>(dB eh1 h1).trans (fr1 c h1 h2)) ?_
    rw[E0,hz];exact(.i (.s (.o O0 (.i (.i (.i (.i .nil)))))))
  case le=>
    have hfin:k+ar aA.aC (l.take (j+1))=kj+6+ar ae.aC x.args:=by rw[htk];simp only[aA.aC];omega
    rw[hfin,wN (by omega)];(try simp[kQ,cj,ck])
theorem Mg(l:List aH)(k:Int)(hk:0≤k)(hb:k+ar aH.aC l≤9223372036854775000)(hl:l.length≤1073741824)(H:AH){a:AV}{fp:List Nat}(o:bO H a (.sl 2 (l.map aH.cd)) fp)(nd:fp.Nodup):
    T Tryz.prog Γ Fn.V4 [a,.int .i64 k] H fun v h'=>v=.int .i64 (k+ar aH.aC l)∧(h'.length=H.length∧(∀c,c∉fp→h'[c]? = H[c]?)∧bO h' a (.sl 2 ((dF aH.cA aH.aC l k).map aH.cd)) fp):=by
  rcases o.fj with⟨rfl,e,rfl⟩|⟨b,g,cap,ex,as0,tail,fp,rfl,rfl,hg,hsz,ht,hc,hown⟩
  · have e:l=[]:=by simpa using e
    subst e
    have L0:fu false .nils=some (.int .i64 0):=rfl
    refine G1 (au aF mixed [] _ _ _ ?_)
    unfold CF
    simp only[cq,ah,Nat.reduceAdd,Nat.reduceBEq,Nat.reduceLeDiff,pf]
    refine bD aF mixed [] (fun _:Unit=>True) (fun _=>0) (fun _=>lj .nils (.int .i64 k) (.int .i64 0) [] H) () trivial ⟨by simp[lj,cj,ck],rfl,rfl⟩ ?_
    intro _ _
    simp only[cq,ah,Nat.reduceAdd,Nat.reduceBEq,Nat.reduceLeDiff,pf,lj,L0,show decide ((0:Int)<0)=false from rfl]
    refine⟨rfl,by simp[ar],?_⟩
    first|exact⟨rfl,fun _ _=>rfl,.nil _⟩|exact⟨fun _ _=>trivial,.nil _⟩
  simp only[List.length_map]at hc o ⊢
  have L0:fu false (.gs b g 0 l.length cap 2 ex)=some (.int .i64 l.length):=rfl
  have hbf:b∉fp:=(List.nodup_cons.1 nd).1
  refine G1 (au aF mixed [] _ _ _ ?_)
  unfold CF
  simp only[cq,ah,Nat.reduceAdd,Nat.reduceBEq,Nat.reduceLeDiff,pf]
  refine bD aF mixed [] (fun y:Nat×AH×List AV×List AV×List Nat×List Nat=>y.1≤l.length∧ga H b g tail fp aH.cd (l.drop y.1) (dF aH.cA aH.aC (l.take y.1) k) y.2.1 y.2.2.1 y.2.2.2.1 y.2.2.2.2.1 y.2.2.2.2.2) (fun y=>l.length-y.1)
    (fun y=>lj (.gs b g 0 l.length cap 2 ex) (.int .i64 (k+ar aH.aC (l.take y.1))) (.int .i64 y.1) [] y.2.1) (0,H,[],as0,[],fp) ⟨by simp,by simpa[dF]using ga.start hg hown⟩ ⟨by simp[lj,cj,ck,ar],rfl,rfl⟩ ?_
  rintro⟨j,H',as1,as2,f1,f2⟩ ⟨hj,iv⟩
  simp only at hj iv
  simp only[cq,ah,Nat.reduceAdd,Nat.reduceBEq,Nat.reduceLeDiff,pf,lj,L0]
  refine ba (fun hlt=>?_) (fun hge=>?_)
  rotate_left
  · have hge:j=l.length:=by simp at hge;omega
    subst hge
    simp only[cq,ah,Nat.reduceAdd,Nat.reduceBEq,Nat.reduceLeDiff,pf]
    rw[List.drop_length,List.take_length]at iv
    rw[List.take_length]
    exact⟨rfl,rfl,iv.done ca (fun _=>rfl) ht hc⟩
  have hlt:j<l.length:=by simpa using hlt
  have htk:=cg aH.aC hlt
  have hle:=dy (c:=aH.aC) aH.aP hlt
  have hnn:=aT (c:=aH.aC) aH.aP (l.take j)
  have hmt:=fK aH.cA aH.aC hlt k
  rw[List.drop_eq_getElem_cons hlt]at iv
  obtain⟨x,hx⟩:∃x,x=l[j]:=⟨_,rfl⟩
  rw[←hx]at iv
  try rw[←hx]at htk hle
  try rw[←hx]at hmt
  obtain⟨kj,hkj⟩:∃kj,kj=k+ar aH.aC (l.take j):=⟨_,rfl⟩
  rw[←hkj]at hmt
  rw[←hkj]
  have hk0:0≤kj:=by omega
  have hkb:kj+aH.aC x≤9223372036854775000:=by omega
  obtain⟨h1,h2,cs,post,fx,fr,e1,e2,rfl,rfl,q1,q2⟩:=iv.open
  have hfx:∀c∈fx,c≠b:=fun c hc e=>hbf (by rw[iv.fps,←e];simp[hc])
  have ndx:fx.Nodup:=(List.nodup_append.1 (List.nodup_append.1 (iv.fps▸(List.nodup_cons.1 nd).2)).2.1).1
  have hn0:as1.length=j*2:=by rw[iv.o1.len,cY (sz:=2) (fun y _=>rfl),ca,List.length_take,Nat.min_eq_left hj]
  have i0:cm 2 (.gs b g 0 l.length cap 2 ex) (j:Int)=some (.gp b g as1.length):=by rw[fo hlt,hn0,Nat.zero_add]
  simp only[aH.aC]at hkb
  simp only[aH.cd,cT,cO,dU,dT,dM]at q1
  obtain⟨_,_,_,_,rfl,e0z,⟨rfl,rfl⟩,⟨_,_,_,_,rfl,e1z,⟨rfl,rfl⟩,⟨rfl,e2z⟩⟩⟩:=q1
  have hfxe:fx=[]:=by rw[e0z,e1z,e2z];simp
  have ow:aV H' [] [] fx:=by rw[hfxe];exact .nil
  have hlen0:=(rfl:H'.length=H'.length)
  have fr0:∀c,c≠b→c∉fx→H'[c]? = H'[c]?:=fun _ _ _=>rfl
  have w0:IntKind.i64.wrap (kj+1)=kj+1:=(aI (by omega) (by omega)).trans (by omega)
  have w1:IntKind.i64.wrap (kj+1+1)=kj+2:=(aI (by omega) (by omega)).trans (by omega)
  obtain⟨H0,hH0⟩:∃H0,H0=H':=⟨_,rfl⟩
  rw[←hH0]at iv q2 ow fr0 hlen0
  have fr0:∀c,c≠b→c∉fx→H'[c]? = H0[c]?:=fun _ _ _=>by rw[hH0]
  have hlen0:H'.length=H0.length:=by rw[hH0]
  rw[hH0]at ow
  replace e1:H'=h1++some (g,as1++qI [.int .i64 x.peer,.int .i64 x.question] (post++tail))::h2:=e1
  subst e1
  simp only[cq,ah,Nat.reduceAdd,Nat.reduceBEq,Nat.reduceLeDiff,pf,i0,fR e2 rfl,fP e2 rfl,w0,w1]
  refine⟨(j+1,_,as1++[.int .i64 (kj),.int .i64 (kj+1)],post,f1++[],fr),⟨hlt,?inv⟩,(by simp only;omega),⟨?le,rfl,rfl⟩⟩
  case inv=>
    simp only;rw[hmt]
    subst hfxe
    exact iv.next (y:=aH.cA x kj) nd q2 (by rw[←hlen0];(try simp)) (dC e2) (fun c h1 h2=>(dB e2 h1).trans (fr0 c h1 h2)) (.i (.i .nil))
  case le=>
    have hfin:k+ar aH.aC (l.take (j+1))=kj+2:=by rw[htk];simp only[aH.aC];omega
    rw[hfin,wN (by omega)];(try simp[lj,cj,ck])
theorem QO(l:List an)(k:Int)(hk:0≤k)(hb:k+ar an.aC l≤9223372036854775000)(hl:l.length≤1073741824)(ho:∀x∈l,x.ok 1073741824)(H:AH){a:AV}{fp:List Nat}(o:bO H a (.sl 12 (l.map an.cd)) fp)(nd:fp.Nodup):
    T Tryz.prog Γ Fn.WT [a,.int .i64 k] H fun v h'=>v=.int .i64 (k+ar an.aC l)∧(h'.length=H.length∧(∀c,c∉fp→h'[c]? = H[c]?)∧bO h' a (.sl 12 ((dF an.cA an.aC l k).map an.cd)) fp):=by
  rcases o.fj with⟨rfl,e,rfl⟩|⟨b,g,cap,ex,as0,tail,fp,rfl,rfl,hg,hsz,ht,hc,hown⟩
  · have e:l=[]:=by simpa using e
    subst e
    have L0:fu false .nils=some (.int .i64 0):=rfl
    refine Hq (au aF mixed [] _ _ _ ?_)
    unfold Cv
    simp only[cq,ah,Nat.reduceAdd,Nat.reduceBEq,Nat.reduceLeDiff,kC]
    refine bD aF mixed [] (fun _:Unit=>True) (fun _=>0) (fun _=>kI .nils (.int .i64 k) (.int .i64 0) [] H) () trivial ⟨by simp[kI,cj,ck],rfl,rfl⟩ ?_
    intro _ _
    simp only[cq,ah,Nat.reduceAdd,Nat.reduceBEq,Nat.reduceLeDiff,kC,kI,L0,show decide ((0:Int)<0)=false from rfl]
    refine⟨rfl,by simp[ar],?_⟩
    first|exact⟨rfl,fun _ _=>rfl,.nil _⟩|exact⟨fun _ _=>trivial,.nil _⟩
  simp only[List.length_map]at hc o ⊢
  have L0:fu false (.gs b g 0 l.length cap 12 ex)=some (.int .i64 l.length):=rfl
  have hbf:b∉fp:=(List.nodup_cons.1 nd).1
  refine Hq (au aF mixed [] _ _ _ ?_)
  unfold Cv
  simp only[cq,ah,Nat.reduceAdd,Nat.reduceBEq,Nat.reduceLeDiff,kC]
  refine bD aF mixed [] (fun y:Nat×AH×List AV×List AV×List Nat×List Nat=>y.1≤l.length∧ga H b g tail fp an.cd (l.drop y.1) (dF an.cA an.aC (l.take y.1) k) y.2.1 y.2.2.1 y.2.2.2.1 y.2.2.2.2.1 y.2.2.2.2.2) (fun y=>l.length-y.1)
    (fun y=>kI (.gs b g 0 l.length cap 12 ex) (.int .i64 (k+ar an.aC (l.take y.1))) (.int .i64 y.1) [] y.2.1) (0,H,[],as0,[],fp) ⟨by simp,by simpa[dF]using ga.start hg hown⟩ ⟨by simp[kI,cj,ck,ar],rfl,rfl⟩ ?_
  rintro⟨j,H',as1,as2,f1,f2⟩ ⟨hj,iv⟩
  simp only at hj iv
  simp only[cq,ah,Nat.reduceAdd,Nat.reduceBEq,Nat.reduceLeDiff,kC,kI,L0]
  refine ba (fun hlt=>?_) (fun hge=>?_)
  rotate_left
  · have hge:j=l.length:=by simp at hge;omega
    subst hge
    simp only[cq,ah,Nat.reduceAdd,Nat.reduceBEq,Nat.reduceLeDiff,kC]
    rw[List.drop_length,List.take_length]at iv
    rw[List.take_length]
    exact⟨rfl,rfl,iv.done ca (fun _=>rfl) ht hc⟩
  have hlt:j<l.length:=by simpa using hlt
  have htk:=cg an.aC hlt
  have hle:=dy (c:=an.aC) an.aP hlt
  have hnn:=aT (c:=an.aC) an.aP (l.take j)
  have hmt:=fK an.cA an.aC hlt k
  rw[List.drop_eq_getElem_cons hlt]at iv
  obtain⟨x,hx⟩:∃x,x=l[j]:=⟨_,rfl⟩
  rw[←hx]at iv
  try rw[←hx]at htk hle
  try rw[←hx]at hmt
  obtain⟨kj,hkj⟩:∃kj,kj=k+ar an.aC (l.take j):=⟨_,rfl⟩
  rw[←hkj]at hmt
  rw[←hkj]
  have hk0:0≤kj:=by omega
  have hkb:kj+an.aC x≤9223372036854775000:=by omega
  obtain⟨h1,h2,cs,post,fx,fr,e1,e2,rfl,rfl,q1,q2⟩:=iv.open
  have hfx:∀c∈fx,c≠b:=fun c hc e=>hbf (by rw[iv.fps,←e];simp[hc])
  have ndx:fx.Nodup:=(List.nodup_append.1 (List.nodup_append.1 (iv.fps▸(List.nodup_cons.1 nd).2)).2.1).1
  have hn0:as1.length=j*12:=by rw[iv.o1.len,cY (sz:=12) (fun y _=>rfl),ca,List.length_take,Nat.min_eq_left hj]
  have i0:cm 12 (.gs b g 0 l.length cap 12 ex) (j:Int)=some (.gp b g as1.length):=by rw[fo hlt,hn0,Nat.zero_add]
  have z0:=aT (c:=ae.aC) ae.aP x.slots
  have z1:=aT (c:=aA.aC) aA.aP x.queue
  have z2:=aT (c:=aH.aC) aH.aP x.askers
  simp only[an.aC]at hkb
  have hox:=ho _ (List.getElem_mem hlt);rw[←hx]at hox
  simp only[an.cd,cT,cO,dU,dT,dM]at q1
  obtain⟨_,_,_,_,rfl,e0z,⟨rfl,rfl⟩,⟨_,_,_,_,rfl,e1z,⟨rfl,rfl⟩,⟨a2,_,g2,_,rfl,e2z,u2,⟨_,_,_,_,rfl,e3z,⟨rfl,rfl⟩,⟨_,_,_,_,rfl,e4z,⟨rfl,rfl⟩,⟨_,_,_,_,rfl,e5z,⟨rfl,rfl⟩,⟨a6,_,g6,_,rfl,e6z,u6,⟨a7,_,g7,_,rfl,e7z,u7,⟨_,_,_,_,rfl,e8z,⟨rfl,rfl⟩,⟨_,_,_,_,rfl,e9z,⟨rfl,rfl⟩,⟨_,_,_,_,rfl,e10z,⟨rfl,rfl⟩,⟨_,_,_,_,rfl,e11z,⟨rfl,rfl⟩,⟨rfl,e12z⟩⟩⟩⟩⟩⟩⟩⟩⟩⟩⟩⟩⟩:=q1
  have hfxe:fx=(g2++(g6++(g7++[]))):=by rw[e0z,e1z,e2z,e3z,e4z,e5z,e6z,e7z,e8z,e9z,e10z,e11z,e12z];simp
  have ow:aV H' [a2,a6,a7] [.sl 2 (x.slots.map ae.cd),.sl 7 (x.queue.map aA.cd),.sl 2 (x.askers.map aH.cd)] fx:=by rw[hfxe];exact(.o u2 (.o u6 (.o u7 .nil)))
  obtain⟨c2a,c2b,c2c,c2d⟩:=u2.cell
  obtain⟨c6a,c6b,c6c,c6d⟩:=u6.cell
  obtain⟨c7a,c7b,c7c,c7d⟩:=u7.cell
  have hlen0:=(rfl:H'.length=H'.length)
  have fr0:∀c,c≠b→c∉fx→H'[c]? = H'[c]?:=fun _ _ _=>rfl
  have w0:IntKind.i64.wrap (kj+1)=kj+1:=(aI (by omega) (by omega)).trans (by omega)
  have w1:IntKind.i64.wrap (kj+1+1)=kj+2:=(aI (by omega) (by omega)).trans (by omega)
  have w3:IntKind.i64.wrap (kj+2+ar ae.aC x.slots+1)=kj+3+ar ae.aC x.slots:=(aI (by omega) (by omega)).trans (by omega)
  have w4:IntKind.i64.wrap (kj+3+ar ae.aC x.slots+1)=kj+4+ar ae.aC x.slots:=(aI (by omega) (by omega)).trans (by omega)
  have w5:IntKind.i64.wrap (kj+4+ar ae.aC x.slots+1)=kj+5+ar ae.aC x.slots:=(aI (by omega) (by omega)).trans (by omega)
  have w8:IntKind.i64.wrap (kj+5+ar ae.aC x.slots+ar aA.aC x.queue+ar aH.aC x.askers+1)=kj+6+ar ae.aC x.slots+ar aA.aC x.queue+ar aH.aC x.askers:=(aI (by omega) (by omega)).trans (by omega)
  have w9:IntKind.i64.wrap (kj+6+ar ae.aC x.slots+ar aA.aC x.queue+ar aH.aC x.askers+1)=kj+7+ar ae.aC x.slots+ar aA.aC x.queue+ar aH.aC x.askers:=(aI (by omega) (by omega)).trans (by omega)
  have w10:IntKind.i64.wrap (kj+7+ar ae.aC x.slots+ar aA.aC x.queue+ar aH.aC x.askers+1)=kj+8+ar ae.aC x.slots+ar aA.aC x.queue+ar aH.aC x.askers:=(aI (by omega) (by omega)).trans (by omega)
  have w11:IntKind.i64.wrap (kj+8+ar ae.aC x.slots+ar aA.aC x.queue+ar aH.aC x.askers+1)=kj+9+ar ae.aC x.slots+ar aA.aC x.queue+ar aH.aC x.askers:=(aI (by omega) (by omega)).trans (by omega)
  obtain⟨H0,hH0⟩:∃H0,H0=H':=⟨_,rfl⟩
  rw[←hH0]at iv q2 ow fr0 hlen0
  have fr0:∀c,c≠b→c∉fx→H'[c]? = H0[c]?:=fun _ _ _=>by rw[hH0]
  have hlen0:H'.length=H0.length:=by rw[hH0]
  rw[hH0]at ow
  replace e1:H'=h1++some (g,as1++qI [.int .i64 x.kind,.int .i64 x.script,a2,.int .i64 x.state,.int .i64 x.value.kind,.int .i64 x.value.n,a6,a7,.int .i64 x.peer,.int .i64 x.pos,.int .i64 x.count,.int .i64 x.sent] (post++tail))::h2:=e1
  subst e1
  simp only[cq,ah,Nat.reduceAdd,Nat.reduceBEq,Nat.reduceLeDiff,kC,i0,fR e2 rfl,fP e2 rfl,w0,w1,w3,w4,w5,w8,w9,w10,w11,c2a,c2b,c2c,c6a,c6b,c6c,c7a,c7b,c7c]
  obtain⟨gi1,oi1,ni1,si1,bk1⟩:=aV.pick (A:=[]) (D:=[]) rfl (ow.frame fun c hc=>dB e2 (hfx c hc)) ndx
  refine aq.ref (by simp only[EO,c2d]) (Gf x.slots (kj+2) (by omega) (by omega) (hox.1) _ oi1 ni1) ?_
  rintro _ hn ⟨rfl,hlen1,hfr1,un1⟩
  replace ow:=bk1 hn _ hfr1 un1
  have fr1:∀c,c≠b→c∉fx→hn[c]? = H0[c]?:=fun c h1 h2=>(hfr1 c (fun h=>h2 (si1 c h))).trans ((dB e2 h1).trans (fr0 c h1 h2))
  have hlen1:hn.length=H0.length:=by rw[hlen1];(try rw[←hlen0]);(try simp)
  obtain⟨p1,r1,rfl,eh1⟩:=gP (eU (dC e2) (hfr1 b (fun h=>hfx b (si1 b h) rfl)))
  simp only[cq,ah,Nat.reduceAdd,Nat.reduceBEq,Nat.reduceLeDiff,kC,i0,fR eh1 rfl,fP eh1 rfl,w0,w1,w3,w4,w5,w8,w9,w10,w11,c2a,c2b,c2c,c6a,c6b,c6c,c7a,c7b,c7c]
  obtain⟨gi2,oi2,ni2,si2,bk2⟩:=aV.pick (A:=[a2]) (D:=[_]) rfl (ow.frame fun c hc=>dB eh1 (hfx c hc)) ndx
  refine aq.ref (by simp only[EO,c6d]) (FX x.queue (kj+5+ar ae.aC x.slots) (by omega) (by omega) (hox.2.1) (hox.2.2.1) _ oi2 ni2) ?_
  rintro _ hn ⟨rfl,hlen2,hfr2,un2⟩
  replace ow:=bk2 hn _ hfr2 un2
  have fr2:∀c,c≠b→c∉fx→hn[c]? = H0[c]?:=fun c h1 h2=>(hfr2 c (fun h=>h2 (si2 c h))).trans ((dB eh1 h1).trans (fr1 c h1 h2))
  have hlen2:hn.length=H0.length:=by rw[hlen2];(try rw[←hlen1]);(try simp)
  obtain⟨p2,r2,rfl,eh2⟩:=gP (eU (dC eh1) (hfr2 b (fun h=>hfx b (si2 b h) rfl)))
  simp only[cq,ah,Nat.reduceAdd,Nat.reduceBEq,Nat.reduceLeDiff,kC,i0,fR eh2 rfl,fP eh2 rfl,w0,w1,w3,w4,w5,w8,w9,w10,w11,c2a,c2b,c2c,c6a,c6b,c6c,c7a,c7b,c7c]
  obtain⟨gi3,oi3,ni3,si3,bk3⟩:=aV.pick (A:=[a2,a6]) (D:=[_,_]) rfl (ow.frame fun c hc=>dB eh2 (hfx c hc)) ndx
  refine aq.ref (by simp only[EO,c7d]) (Mg x.askers (kj+5+ar ae.aC x.slots+ar aA.aC x.queue) (by omega) (by omega) (hox.2.2.2) _ oi3 ni3) ?_
  rintro _ hn ⟨rfl,hlen3,hfr3,un3⟩
  replace ow:=bk3 hn _ hfr3 un3
  have fr3:∀c,c≠b→c∉fx→hn[c]? = H0[c]?:=fun c h1 h2=>(hfr3 c (fun h=>h2 (si3 c h))).trans ((dB eh2 h1).trans (fr2 c h1 h2))
  have hlen3:hn.length=H0.length:=by rw[hlen3];(try rw[←hlen2]);(try simp)
  obtain⟨p3,r3,rfl,eh3⟩:=gP (eU (dC eh2) (hfr3 b (fun h=>hfx b (si3 b h) rfl)))
  simp only[cq,ah,Nat.reduceAdd,Nat.reduceBEq,Nat.reduceLeDiff,kC,i0,fR eh3 rfl,fP eh3 rfl,w0,w1,w3,w4,w5,w8,w9,w10,w11,c2a,c2b,c2c,c6a,c6b,c6c,c7a,c7b,c7c]
  refine⟨(j+1,_,as1++[.int .i64 (kj),.int .i64 (kj+1),a2,.int .i64 (kj+2+ar ae.aC x.slots),.int .i64 (kj+3+ar ae.aC x.slots),.int .i64 (kj+4+ar ae.aC x.slots),a6,a7,.int .i64 (kj+5+ar ae.aC x.slots+ar aA.aC x.queue+ar aH.aC x.askers),.int .i64 (kj+6+ar ae.aC x.slots+ar aA.aC x.queue+ar aH.aC x.askers),.int .i64 (kj+7+ar ae.aC x.slots+ar aA.aC x.queue+ar aH.aC x.askers),.int .i64 (kj+8+ar ae.aC x.slots+ar aA.aC x.queue+ar aH.aC x.askers)],post,f1++fx,fr),⟨hlt,?inv⟩,(by simp only;omega),⟨?le,rfl,rfl⟩⟩
  case inv=>
    simp only;rw[hmt]
    replace ow:=ow.frame fun c hc=>dB (x:=some (g,as1++qI [.int .i64 (kj),.int .i64 (kj+1),a2,.int .i64 (kj+2+ar ae.aC x.slots),.int .i64 (kj+3+ar ae.aC x.slots),.int .i64 (kj+4+ar ae.aC x.slots),a6,a7,.int .i64 (kj+5+ar ae.aC x.slots+ar aA.aC x.queue+ar aH.aC x.askers),.int .i64 (kj+6+ar ae.aC x.slots+ar aA.aC x.queue+ar aH.aC x.askers),.int .i64 (kj+7+ar ae.aC x.slots+ar aA.aC x.queue+ar aH.aC x.askers),.int .i64 (kj+8+ar ae.aC x.slots+ar aA.aC x.queue+ar aH.aC x.askers)] (post++tail))) eh3 (hfx c hc)
    obtain⟨F0,R0,E0,O0,⟨F1,R1,E1,O1,⟨F2,R2,E2,O2,hz⟩⟩⟩:=ow
    have hz:R2=[]:=hz
    refine iv.next (y:=an.cA x kj) nd q2 (by rw[←hlen3];(try simp)) (dC eh3) (fun c h1 h2=>(dB eh3 h1).trans (fr3 c h1 h2)) ?_
    rw[E0,E1,E2,hz];exact(.i (.i (.o O0 (.i (.i (.i (.o O1 (.o O2 (.i (.i (.i (.i .nil))))))))))))
  case le=>
    have hfin:k+ar an.aC (l.take (j+1))=kj+9+ar ae.aC x.slots+ar aA.aC x.queue+ar aH.aC x.askers:=by rw[htk];simp only[an.aC];omega
    rw[hfin,wN (by omega)];(try simp[kI,cj,ck])
theorem NH(l:List aD)(k:Int)(hk:0≤k)(hb:k+ar aD.aC l≤9223372036854775000)(hl:l.length≤1073741824)(H:AH){a:AV}{fp:List Nat}(o:bO H a (.sl 3 (l.map aD.cd)) fp)(nd:fp.Nodup):
    T Tryz.prog Γ Fn.Xo [a,.int .i64 k] H fun v h'=>v=.int .i64 (k+ar aD.aC l)∧(h'.length=H.length∧(∀c,c∉fp→h'[c]? = H[c]?)∧bO h' a (.sl 3 ((dF aD.cA aD.aC l k).map aD.cd)) fp):=by
  rcases o.fj with⟨rfl,e,rfl⟩|⟨b,g,cap,ex,as0,tail,fp,rfl,rfl,hg,hsz,ht,hc,hown⟩
  · have e:l=[]:=by simpa using e
    subst e
    have L0:fu false .nils=some (.int .i64 0):=rfl
    refine JM (au aF mixed [] _ _ _ ?_)
    unfold Ck
    simp only[cq,ah,Nat.reduceAdd,Nat.reduceBEq,Nat.reduceLeDiff,py]
    refine bD aF mixed [] (fun _:Unit=>True) (fun _=>0) (fun _=>ll .nils (.int .i64 k) (.int .i64 0) [] H) () trivial ⟨by simp[ll,cj,ck],rfl,rfl⟩ ?_
    intro _ _
    simp only[cq,ah,Nat.reduceAdd,Nat.reduceBEq,Nat.reduceLeDiff,py,ll,L0,show decide ((0:Int)<0)=false from rfl]
    refine⟨rfl,by simp[ar],?_⟩
    first|exact⟨rfl,fun _ _=>rfl,.nil _⟩|exact⟨fun _ _=>trivial,.nil _⟩
  simp only[List.length_map]at hc o ⊢
  have L0:fu false (.gs b g 0 l.length cap 3 ex)=some (.int .i64 l.length):=rfl
  have hbf:b∉fp:=(List.nodup_cons.1 nd).1
  refine JM (au aF mixed [] _ _ _ ?_)
  unfold Ck
  simp only[cq,ah,Nat.reduceAdd,Nat.reduceBEq,Nat.reduceLeDiff,py]
  refine bD aF mixed [] (fun y:Nat×AH×List AV×List AV×List Nat×List Nat=>y.1≤l.length∧ga H b g tail fp aD.cd (l.drop y.1) (dF aD.cA aD.aC (l.take y.1) k) y.2.1 y.2.2.1 y.2.2.2.1 y.2.2.2.2.1 y.2.2.2.2.2) (fun y=>l.length-y.1)
    (fun y=>ll (.gs b g 0 l.length cap 3 ex) (.int .i64 (k+ar aD.aC (l.take y.1))) (.int .i64 y.1) [] y.2.1) (0,H,[],as0,[],fp) ⟨by simp,by simpa[dF]using ga.start hg hown⟩ ⟨by simp[ll,cj,ck,ar],rfl,rfl⟩ ?_
  rintro⟨j,H',as1,as2,f1,f2⟩ ⟨hj,iv⟩
  simp only at hj iv
  simp only[cq,ah,Nat.reduceAdd,Nat.reduceBEq,Nat.reduceLeDiff,py,ll,L0]
  refine ba (fun hlt=>?_) (fun hge=>?_)
  rotate_left
  · have hge:j=l.length:=by simp at hge;omega
    subst hge
    simp only[cq,ah,Nat.reduceAdd,Nat.reduceBEq,Nat.reduceLeDiff,py]
    rw[List.drop_length,List.take_length]at iv
    rw[List.take_length]
    exact⟨rfl,rfl,iv.done ca (fun _=>rfl) ht hc⟩
  have hlt:j<l.length:=by simpa using hlt
  have htk:=cg aD.aC hlt
  have hle:=dy (c:=aD.aC) aD.aP hlt
  have hnn:=aT (c:=aD.aC) aD.aP (l.take j)
  have hmt:=fK aD.cA aD.aC hlt k
  rw[List.drop_eq_getElem_cons hlt]at iv
  obtain⟨x,hx⟩:∃x,x=l[j]:=⟨_,rfl⟩
  rw[←hx]at iv
  try rw[←hx]at htk hle
  try rw[←hx]at hmt
  obtain⟨kj,hkj⟩:∃kj,kj=k+ar aD.aC (l.take j):=⟨_,rfl⟩
  rw[←hkj]at hmt
  rw[←hkj]
  have hk0:0≤kj:=by omega
  have hkb:kj+aD.aC x≤9223372036854775000:=by omega
  obtain⟨h1,h2,cs,post,fx,fr,e1,e2,rfl,rfl,q1,q2⟩:=iv.open
  have hfx:∀c∈fx,c≠b:=fun c hc e=>hbf (by rw[iv.fps,←e];simp[hc])
  have ndx:fx.Nodup:=(List.nodup_append.1 (List.nodup_append.1 (iv.fps▸(List.nodup_cons.1 nd).2)).2.1).1
  have hn0:as1.length=j*3:=by rw[iv.o1.len,cY (sz:=3) (fun y _=>rfl),ca,List.length_take,Nat.min_eq_left hj]
  have i0:cm 3 (.gs b g 0 l.length cap 3 ex) (j:Int)=some (.gp b g as1.length):=by rw[fo hlt,hn0,Nat.zero_add]
  simp only[aD.aC]at hkb
  simp only[aD.cd,cT,cO,dU,dT,dM]at q1
  obtain⟨_,_,_,_,rfl,e0z,⟨rfl,rfl⟩,⟨_,_,_,_,rfl,e1z,⟨rfl,rfl⟩,⟨_,_,_,_,rfl,e2z,⟨rfl,rfl⟩,⟨rfl,e3z⟩⟩⟩⟩:=q1
  have hfxe:fx=[]:=by rw[e0z,e1z,e2z,e3z];simp
  have ow:aV H' [] [] fx:=by rw[hfxe];exact .nil
  have hlen0:=(rfl:H'.length=H'.length)
  have fr0:∀c,c≠b→c∉fx→H'[c]? = H'[c]?:=fun _ _ _=>rfl
  have w0:IntKind.i64.wrap (kj+1)=kj+1:=(aI (by omega) (by omega)).trans (by omega)
  have w1:IntKind.i64.wrap (kj+1+1)=kj+2:=(aI (by omega) (by omega)).trans (by omega)
  have w2:IntKind.i64.wrap (kj+2+1)=kj+3:=(aI (by omega) (by omega)).trans (by omega)
  obtain⟨H0,hH0⟩:∃H0,H0=H':=⟨_,rfl⟩
  rw[←hH0]at iv q2 ow fr0 hlen0
  have fr0:∀c,c≠b→c∉fx→H'[c]? = H0[c]?:=fun _ _ _=>by rw[hH0]
  have hlen0:H'.length=H0.length:=by rw[hH0]
  rw[hH0]at ow
  replace e1:H'=h1++some (g,as1++qI [.int .i64 x.pos,.int .i64 x.entity,.int .i64 x.count] (post++tail))::h2:=e1
  subst e1
  simp only[cq,ah,Nat.reduceAdd,Nat.reduceBEq,Nat.reduceLeDiff,py,i0,fR e2 rfl,fP e2 rfl,w0,w1,w2]
  refine⟨(j+1,_,as1++[.int .i64 (kj),.int .i64 (kj+1),.int .i64 (kj+2)],post,f1++[],fr),⟨hlt,?inv⟩,(by simp only;omega),⟨?le,rfl,rfl⟩⟩
  case inv=>
    simp only;rw[hmt]
    subst hfxe
    exact iv.next (y:=aD.cA x kj) nd q2 (by rw[←hlen0];(try simp)) (dC e2) (fun c h1 h2=>(dB e2 h1).trans (fr0 c h1 h2)) (.i (.i (.i .nil)))
  case le=>
    have hfin:k+ar aD.aC (l.take (j+1))=kj+3:=by rw[htk];simp only[aD.aC];omega
    rw[hfin,wN (by omega)];(try simp[ll,cj,ck])
theorem Ih(l:List ak)(k:Int)(hk:0≤k)(hb:k+ar ak.aC l≤9223372036854775000)(hl:l.length≤1073741824)(H:AH){a:AV}{fp:List Nat}(o:bO H a (.sl 2 (l.map ak.cd)) fp)(nd:fp.Nodup):
    T Tryz.prog Γ Fn.Vc [a,.int .i64 k] H fun v h'=>v=.int .i64 (k+ar ak.aC l)∧(h'.length=H.length∧(∀c,c∉fp→h'[c]? = H[c]?)∧bO h' a (.sl 2 ((dF ak.cA ak.aC l k).map ak.cd)) fp):=by
  rcases o.fj with⟨rfl,e,rfl⟩|⟨b,g,cap,ex,as0,tail,fp,rfl,rfl,hg,hsz,ht,hc,hown⟩
  · have e:l=[]:=by simpa using e
    subst e
    have L0:fu false .nils=some (.int .i64 0):=rfl
    refine Jk (au aF mixed [] _ _ _ ?_)
    unfold BC
    simp only[cq,ah,Nat.reduceAdd,Nat.reduceBEq,Nat.reduceLeDiff,qm]
    refine bD aF mixed [] (fun _:Unit=>True) (fun _=>0) (fun _=>kK .nils (.int .i64 k) (.int .i64 0) [] H) () trivial ⟨by simp[kK,cj,ck],rfl,rfl⟩ ?_
    intro _ _
    simp only[cq,ah,Nat.reduceAdd,Nat.reduceBEq,Nat.reduceLeDiff,qm,kK,L0,show decide ((0:Int)<0)=false from rfl]
    refine⟨rfl,by simp[ar],?_⟩
    first|exact⟨rfl,fun _ _=>rfl,.nil _⟩|exact⟨fun _ _=>trivial,.nil _⟩
  simp only[List.length_map]at hc o ⊢
  have L0:fu false (.gs b g 0 l.length cap 2 ex)=some (.int .i64 l.length):=rfl
  have hbf:b∉fp:=(List.nodup_cons.1 nd).1
  refine Jk (au aF mixed [] _ _ _ ?_)
  unfold BC
  simp only[cq,ah,Nat.reduceAdd,Nat.reduceBEq,Nat.reduceLeDiff,qm]
  refine bD aF mixed [] (fun y:Nat×AH×List AV×List AV×List Nat×List Nat=>y.1≤l.length∧ga H b g tail fp ak.cd (l.drop y.1) (dF ak.cA ak.aC (l.take y.1) k) y.2.1 y.2.2.1 y.2.2.2.1 y.2.2.2.2.1 y.2.2.2.2.2) (fun y=>l.length-y.1)
    (fun y=>kK (.gs b g 0 l.length cap 2 ex) (.int .i64 (k+ar ak.aC (l.take y.1))) (.int .i64 y.1) [] y.2.1) (0,H,[],as0,[],fp) ⟨by simp,by simpa[dF]using ga.start hg hown⟩ ⟨by simp[kK,cj,ck,ar],rfl,rfl⟩ ?_
  rintro⟨j,H',as1,as2,f1,f2⟩ ⟨hj,iv⟩
  simp only at hj iv
  simp only[cq,ah,Nat.reduceAdd,Nat.reduceBEq,Nat.reduceLeDiff,qm,kK,L0]
  refine ba (fun hlt=>?_) (fun hge=>?_)
  rotate_left
  · have hge:j=l.length:=by simp at hge;omega
    subst hge
    simp only[cq,ah,Nat.reduceAdd,Nat.reduceBEq,Nat.reduceLeDiff,qm]
    rw[List.drop_length,List.take_length]at iv
    rw[List.take_length]
    exact⟨rfl,rfl,iv.done ca (fun _=>rfl) ht hc⟩
  have hlt:j<l.length:=by simpa using hlt
  have htk:=cg ak.aC hlt
  have hle:=dy (c:=ak.aC) ak.aP hlt
  have hnn:=aT (c:=ak.aC) ak.aP (l.take j)
  have hmt:=fK ak.cA ak.aC hlt k
  rw[List.drop_eq_getElem_cons hlt]at iv
  obtain⟨x,hx⟩:∃x,x=l[j]:=⟨_,rfl⟩
  rw[←hx]at iv
  try rw[←hx]at htk hle
  try rw[←hx]at hmt
  obtain⟨kj,hkj⟩:∃kj,kj=k+ar ak.aC (l.take j):=⟨_,rfl⟩
  rw[←hkj]at hmt
  rw[←hkj]
  have hk0:0≤kj:=by omega
  have hkb:kj+ak.aC x≤9223372036854775000:=by omega
  obtain⟨h1,h2,cs,post,fx,fr,e1,e2,rfl,rfl,q1,q2⟩:=iv.open
  have hfx:∀c∈fx,c≠b:=fun c hc e=>hbf (by rw[iv.fps,←e];simp[hc])
  have ndx:fx.Nodup:=(List.nodup_append.1 (List.nodup_append.1 (iv.fps▸(List.nodup_cons.1 nd).2)).2.1).1
  have hn0:as1.length=j*2:=by rw[iv.o1.len,cY (sz:=2) (fun y _=>rfl),ca,List.length_take,Nat.min_eq_left hj]
  have i0:cm 2 (.gs b g 0 l.length cap 2 ex) (j:Int)=some (.gp b g as1.length):=by rw[fo hlt,hn0,Nat.zero_add]
  simp only[ak.aC]at hkb
  simp only[ak.cd,cT,cO,dU,dT,dM]at q1
  obtain⟨_,_,_,_,rfl,e0z,⟨rfl,rfl⟩,⟨_,_,_,_,rfl,e1z,⟨rfl,rfl⟩,⟨rfl,e2z⟩⟩⟩:=q1
  have hfxe:fx=[]:=by rw[e0z,e1z,e2z];simp
  have ow:aV H' [] [] fx:=by rw[hfxe];exact .nil
  have hlen0:=(rfl:H'.length=H'.length)
  have fr0:∀c,c≠b→c∉fx→H'[c]? = H'[c]?:=fun _ _ _=>rfl
  have w0:IntKind.i64.wrap (kj+1)=kj+1:=(aI (by omega) (by omega)).trans (by omega)
  have w1:IntKind.i64.wrap (kj+1+1)=kj+2:=(aI (by omega) (by omega)).trans (by omega)
  obtain⟨H0,hH0⟩:∃H0,H0=H':=⟨_,rfl⟩
  rw[←hH0]at iv q2 ow fr0 hlen0
  have fr0:∀c,c≠b→c∉fx→H'[c]? = H0[c]?:=fun _ _ _=>by rw[hH0]
  have hlen0:H'.length=H0.length:=by rw[hH0]
  rw[hH0]at ow
  replace e1:H'=h1++some (g,as1++qI [.int .i64 x.id,.int .i64 x.promise] (post++tail))::h2:=e1
  subst e1
  simp only[cq,ah,Nat.reduceAdd,Nat.reduceBEq,Nat.reduceLeDiff,qm,i0,fR e2 rfl,fP e2 rfl,w0,w1]
  refine⟨(j+1,_,as1++[.int .i64 (kj),.int .i64 (kj+1)],post,f1++[],fr),⟨hlt,?inv⟩,(by simp only;omega),⟨?le,rfl,rfl⟩⟩
  case inv=>
    simp only;rw[hmt]
    subst hfxe
    exact iv.next (y:=ak.cA x kj) nd q2 (by rw[←hlen0];(try simp)) (dC e2) (fun c h1 h2=>(dB e2 h1).trans (fr0 c h1 h2)) (.i (.i .nil))
  case le=>
    have hfin:k+ar ak.aC (l.take (j+1))=kj+2:=by rw[htk];simp only[ak.aC];omega
    rw[hfin,wN (by omega)];(try simp[kK,cj,ck])
theorem N1(l:List aM)(k:Int)(hk:0≤k)(hb:k+ar aM.aC l≤9223372036854775000)(hl:l.length≤1073741824)(ho:∀x∈l,x.ok 1073741824)(H:AH){a:AV}{fp:List Nat}(o:bO H a (.sl 7 (l.map aM.cd)) fp)(nd:fp.Nodup):
    T Tryz.prog Γ Fn.Xw [a,.int .i64 k] H fun v h'=>v=.int .i64 (k+ar aM.aC l)∧(h'.length=H.length∧(∀c,c∉fp→h'[c]? = H[c]?)∧bO h' a (.sl 7 ((dF aM.cA aM.aC l k).map aM.cd)) fp):=by
  rcases o.fj with⟨rfl,e,rfl⟩|⟨b,g,cap,ex,as0,tail,fp,rfl,rfl,hg,hsz,ht,hc,hown⟩
  · have e:l=[]:=by simpa using e
    subst e
    have L0:fu false .nils=some (.int .i64 0):=rfl
    refine G0 (au aF mixed [] _ _ _ ?_)
    unfold Cr
    simp only[cq,ah,Nat.reduceAdd,Nat.reduceBEq,Nat.reduceLeDiff,kz]
    refine bD aF mixed [] (fun _:Unit=>True) (fun _=>0) (fun _=>lk .nils (.int .i64 k) (.int .i64 0) [] H) () trivial ⟨by simp[lk,cj,ck],rfl,rfl⟩ ?_
    intro _ _
    simp only[cq,ah,Nat.reduceAdd,Nat.reduceBEq,Nat.reduceLeDiff,kz,lk,L0,show decide ((0:Int)<0)=false from rfl]
    refine⟨rfl,by simp[ar],?_⟩
    first|exact⟨rfl,fun _ _=>rfl,.nil _⟩|exact⟨fun _ _=>trivial,.nil _⟩
  simp only[List.length_map]at hc o ⊢
  have L0:fu false (.gs b g 0 l.length cap 7 ex)=some (.int .i64 l.length):=rfl
  have hbf:b∉fp:=(List.nodup_cons.1 nd).1
  refine G0 (au aF mixed [] _ _ _ ?_)
  unfold Cr
  simp only[cq,ah,Nat.reduceAdd,Nat.reduceBEq,Nat.reduceLeDiff,kz]
  refine bD aF mixed [] (fun y:Nat×AH×List AV×List AV×List Nat×List Nat=>y.1≤l.length∧ga H b g tail fp aM.cd (l.drop y.1) (dF aM.cA aM.aC (l.take y.1) k) y.2.1 y.2.2.1 y.2.2.2.1 y.2.2.2.2.1 y.2.2.2.2.2) (fun y=>l.length-y.1)
    (fun y=>lk (.gs b g 0 l.length cap 7 ex) (.int .i64 (k+ar aM.aC (l.take y.1))) (.int .i64 y.1) [] y.2.1) (0,H,[],as0,[],fp) ⟨by simp,by simpa[dF]using ga.start hg hown⟩ ⟨by simp[lk,cj,ck,ar],rfl,rfl⟩ ?_
  rintro⟨j,H',as1,as2,f1,f2⟩ ⟨hj,iv⟩
  simp only at hj iv
  simp only[cq,ah,Nat.reduceAdd,Nat.reduceBEq,Nat.reduceLeDiff,kz,lk,L0]
  refine ba (fun hlt=>?_) (fun hge=>?_)
  rotate_left
  · have hge:j=l.length:=by simp at hge;omega
    subst hge
    simp only[cq,ah,Nat.reduceAdd,Nat.reduceBEq,Nat.reduceLeDiff,kz]
    rw[List.drop_length,List.take_length]at iv
    rw[List.take_length]
    exact⟨rfl,rfl,iv.done ca (fun _=>rfl) ht hc⟩
  have hlt:j<l.length:=by simpa using hlt
  have htk:=cg aM.aC hlt
  have hle:=dy (c:=aM.aC) aM.aP hlt
  have hnn:=aT (c:=aM.aC) aM.aP (l.take j)
  have hmt:=fK aM.cA aM.aC hlt k
  rw[List.drop_eq_getElem_cons hlt]at iv
  obtain⟨x,hx⟩:∃x,x=l[j]:=⟨_,rfl⟩
  rw[←hx]at iv
  try rw[←hx]at htk hle
  try rw[←hx]at hmt
  obtain⟨kj,hkj⟩:∃kj,kj=k+ar aM.aC (l.take j):=⟨_,rfl⟩
  rw[←hkj]at hmt
  rw[←hkj]
  have hk0:0≤kj:=by omega
  have hkb:kj+aM.aC x≤9223372036854775000:=by omega
  obtain⟨h1,h2,cs,post,fx,fr,e1,e2,rfl,rfl,q1,q2⟩:=iv.open
  have hfx:∀c∈fx,c≠b:=fun c hc e=>hbf (by rw[iv.fps,←e];simp[hc])
  have ndx:fx.Nodup:=(List.nodup_append.1 (List.nodup_append.1 (iv.fps▸(List.nodup_cons.1 nd).2)).2.1).1
  have hn0:as1.length=j*7:=by rw[iv.o1.len,cY (sz:=7) (fun y _=>rfl),ca,List.length_take,Nat.min_eq_left hj]
  have i0:cm 7 (.gs b g 0 l.length cap 7 ex) (j:Int)=some (.gp b g as1.length):=by rw[fo hlt,hn0,Nat.zero_add]
  have z0:=aT (c:=aD.aC) aD.aP x.exports
  have z1:=aT (c:=ak.aC) ak.aP x.questions
  have z2:=aT (c:=ak.aC) ak.aP x.answers
  simp only[aM.aC]at hkb
  have hox:=ho _ (List.getElem_mem hlt);rw[←hx]at hox
  simp only[aM.cd,cT,cO,dU,dT,dM]at q1
  obtain⟨_,_,_,_,rfl,e0z,⟨rfl,rfl⟩,⟨_,_,_,_,rfl,e1z,⟨rfl,rfl⟩,⟨a2,_,g2,_,rfl,e2z,u2,⟨_,_,_,_,rfl,e3z,⟨rfl,rfl⟩,⟨a4,_,g4,_,rfl,e4z,u4,⟨_,_,_,_,rfl,e5z,⟨rfl,rfl⟩,⟨a6,_,g6,_,rfl,e6z,u6,⟨rfl,e7z⟩⟩⟩⟩⟩⟩⟩⟩:=q1
  have hfxe:fx=(g2++(g4++(g6++[]))):=by rw[e0z,e1z,e2z,e3z,e4z,e5z,e6z,e7z];simp
  have ow:aV H' [a2,a4,a6] [.sl 3 (x.exports.map aD.cd),.sl 2 (x.questions.map ak.cd),.sl 2 (x.answers.map ak.cd)] fx:=by rw[hfxe];exact(.o u2 (.o u4 (.o u6 .nil)))
  obtain⟨c2a,c2b,c2c,c2d⟩:=u2.cell
  obtain⟨c4a,c4b,c4c,c4d⟩:=u4.cell
  obtain⟨c6a,c6b,c6c,c6d⟩:=u6.cell
  have hlen0:=(rfl:H'.length=H'.length)
  have fr0:∀c,c≠b→c∉fx→H'[c]? = H'[c]?:=fun _ _ _=>rfl
  have w0:IntKind.i64.wrap (kj+1)=kj+1:=(aI (by omega) (by omega)).trans (by omega)
  have w1:IntKind.i64.wrap (kj+1+1)=kj+2:=(aI (by omega) (by omega)).trans (by omega)
  have m1:bU .rem .num (.int .i64 (kj+1)) (.int .i64 3)=some (.int .i64 ((kj+1) % 3)):=by simp only[bU,fh,if_true];rw[if_neg (by decide),Int.tmod_eq_emod_of_nonneg (by omega)]
  have w3:IntKind.i64.wrap (kj+2+ar aD.aC x.exports+1)=kj+3+ar aD.aC x.exports:=(aI (by omega) (by omega)).trans (by omega)
  have w5:IntKind.i64.wrap (kj+3+ar aD.aC x.exports+ar ak.aC x.questions+1)=kj+4+ar aD.aC x.exports+ar ak.aC x.questions:=(aI (by omega) (by omega)).trans (by omega)
  obtain⟨H0,hH0⟩:∃H0,H0=H':=⟨_,rfl⟩
  rw[←hH0]at iv q2 ow fr0 hlen0
  have fr0:∀c,c≠b→c∉fx→H'[c]? = H0[c]?:=fun _ _ _=>by rw[hH0]
  have hlen0:H'.length=H0.length:=by rw[hH0]
  rw[hH0]at ow
  replace e1:H'=h1++some (g,as1++qI [.int .i64 x.peer,.bool x.up,a2,.int .i64 x.next,a4,.int .i64 x.asked,a6] (post++tail))::h2:=e1
  subst e1
  simp only[cq,ah,Nat.reduceAdd,Nat.reduceBEq,Nat.reduceLeDiff,kz,i0,fR e2 rfl,fP e2 rfl,w0,w1,m1,aE,w3,w5,c2a,c2b,c2c,c4a,c4b,c4c,c6a,c6b,c6c]
  obtain⟨gi1,oi1,ni1,si1,bk1⟩:=aV.pick (A:=[]) (D:=[]) rfl (ow.frame fun c hc=>dB e2 (hfx c hc)) ndx
  refine aq.ref (by simp only[EO,c2d]) (NH x.exports (kj+2) (by omega) (by omega) (hox.1) _ oi1 ni1) ?_
  rintro _ hn ⟨rfl,hlen1,hfr1,un1⟩
  replace ow:=bk1 hn _ hfr1 un1
  have fr1:∀c,c≠b→c∉fx→hn[c]? = H0[c]?:=fun c h1 h2=>(hfr1 c (fun h=>h2 (si1 c h))).trans ((dB e2 h1).trans (fr0 c h1 h2))
  have hlen1:hn.length=H0.length:=by rw[hlen1];(try rw[←hlen0]);(try simp)
  obtain⟨p1,r1,rfl,eh1⟩:=gP (eU (dC e2) (hfr1 b (fun h=>hfx b (si1 b h) rfl)))
  simp only[cq,ah,Nat.reduceAdd,Nat.reduceBEq,Nat.reduceLeDiff,kz,i0,fR eh1 rfl,fP eh1 rfl,w0,w1,m1,aE,w3,w5,c2a,c2b,c2c,c4a,c4b,c4c,c6a,c6b,c6c]
  obtain⟨gi2,oi2,ni2,si2,bk2⟩:=aV.pick (A:=[a2]) (D:=[_]) rfl (ow.frame fun c hc=>dB eh1 (hfx c hc)) ndx
  refine aq.ref (by simp only[EO,c4d]) (Ih x.questions (kj+3+ar aD.aC x.exports) (by omega) (by omega) (hox.2.1) _ oi2 ni2) ?_
  rintro _ hn ⟨rfl,hlen2,hfr2,un2⟩
  replace ow:=bk2 hn _ hfr2 un2
  have fr2:∀c,c≠b→c∉fx→hn[c]? = H0[c]?:=fun c h1 h2=>(hfr2 c (fun h=>h2 (si2 c h))).trans ((dB eh1 h1).trans (fr1 c h1 h2))
  have hlen2:hn.length=H0.length:=by rw[hlen2];(try rw[←hlen1]);(try simp)
  obtain⟨p2,r2,rfl,eh2⟩:=gP (eU (dC eh1) (hfr2 b (fun h=>hfx b (si2 b h) rfl)))
  simp only[cq,ah,Nat.reduceAdd,Nat.reduceBEq,Nat.reduceLeDiff,kz,i0,fR eh2 rfl,fP eh2 rfl,w0,w1,m1,aE,w3,w5,c2a,c2b,c2c,c4a,c4b,c4c,c6a,c6b,c6c]
  obtain⟨gi3,oi3,ni3,si3,bk3⟩:=aV.pick (A:=[a2,a4]) (D:=[_,_]) rfl (ow.frame fun c hc=>dB eh2 (hfx c hc)) ndx
  refine aq.ref (by simp only[EO,c6d]) (Ih x.answers (kj+4+ar aD.aC x.exports+ar ak.aC x.questions) (by omega) (by omega) (hox.2.2) _ oi3 ni3) ?_
  rintro _ hn ⟨rfl,hlen3,hfr3,un3⟩
  replace ow:=bk3 hn _ hfr3 un3
  have fr3:∀c,c≠b→c∉fx→hn[c]? = H0[c]?:=fun c h1 h2=>(hfr3 c (fun h=>h2 (si3 c h))).trans ((dB eh2 h1).trans (fr2 c h1 h2))
  have hlen3:hn.length=H0.length:=by rw[hlen3];(try rw[←hlen2]);(try simp)
  obtain⟨p3,r3,rfl,eh3⟩:=gP (eU (dC eh2) (hfr3 b (fun h=>hfx b (si3 b h) rfl)))
  simp only[cq,ah,Nat.reduceAdd,Nat.reduceBEq,Nat.reduceLeDiff,kz,i0,fR eh3 rfl,fP eh3 rfl,w0,w1,m1,aE,w3,w5,c2a,c2b,c2c,c4a,c4b,c4c,c6a,c6b,c6c]
  refine⟨(j+1,_,as1++[.int .i64 (kj),.bool (decide ((kj+1) % 3=0)),a2,.int .i64 (kj+2+ar aD.aC x.exports),a4,.int .i64 (kj+3+ar aD.aC x.exports+ar ak.aC x.questions),a6],post,f1++fx,fr),⟨hlt,?inv⟩,(by simp only;omega),⟨?le,rfl,rfl⟩⟩
  case inv=>
    simp only;rw[hmt]
    replace ow:=ow.frame fun c hc=>dB (x:=some (g,as1++qI [.int .i64 (kj),.bool (decide ((kj+1) % 3=0)),a2,.int .i64 (kj+2+ar aD.aC x.exports),a4,.int .i64 (kj+3+ar aD.aC x.exports+ar ak.aC x.questions),a6] (post++tail))) eh3 (hfx c hc)
    obtain⟨F0,R0,E0,O0,⟨F1,R1,E1,O1,⟨F2,R2,E2,O2,hz⟩⟩⟩:=ow
    have hz:R2=[]:=hz
    refine iv.next (y:=aM.cA x kj) nd q2 (by rw[←hlen3];(try simp)) (dC eh3) (fun c h1 h2=>(dB eh3 h1).trans (fr3 c h1 h2)) ?_
    rw[E0,E1,E2,hz];exact(.i (.b (.o O0 (.i (.o O1 (.i (.o O2 .nil)))))))
  case le=>
    have hfin:k+ar aM.aC (l.take (j+1))=kj+4+ar aD.aC x.exports+ar ak.aC x.questions+ar ak.aC x.answers:=by rw[htk];simp only[aM.aC];omega
    rw[hfin,wN (by omega)];(try simp[lk,cj,ck])
theorem LF(l:List aL)(k:Int)(hk:0≤k)(hb:k+ar aL.aC l≤9223372036854775000)(hl:l.length≤1073741824)(H:AH){a:AV}{fp:List Nat}(o:bO H a (.sl 2 (l.map aL.cd)) fp)(nd:fp.Nodup):
    T Tryz.prog Γ Fn.Wm [a,.int .i64 k] H fun v h'=>v=.int .i64 (k+ar aL.aC l)∧(h'.length=H.length∧(∀c,c∉fp→h'[c]? = H[c]?)∧bO h' a (.sl 2 ((dF aL.cA aL.aC l k).map aL.cd)) fp):=by
  rcases o.fj with⟨rfl,e,rfl⟩|⟨b,g,cap,ex,as0,tail,fp,rfl,rfl,hg,hsz,ht,hc,hown⟩
  · have e:l=[]:=by simpa using e
    subst e
    have L0:fu false .nils=some (.int .i64 0):=rfl
    refine Fj (au aF mixed [] _ _ _ ?_)
    unfold BU
    simp only[cq,ah,Nat.reduceAdd,Nat.reduceBEq,Nat.reduceLeDiff,pn]
    refine bD aF mixed [] (fun _:Unit=>True) (fun _=>0) (fun _=>kX .nils (.int .i64 k) (.int .i64 0) [] H) () trivial ⟨by simp[kX,cj,ck],rfl,rfl⟩ ?_
    intro _ _
    simp only[cq,ah,Nat.reduceAdd,Nat.reduceBEq,Nat.reduceLeDiff,pn,kX,L0,show decide ((0:Int)<0)=false from rfl]
    refine⟨rfl,by simp[ar],?_⟩
    first|exact⟨rfl,fun _ _=>rfl,.nil _⟩|exact⟨fun _ _=>trivial,.nil _⟩
  simp only[List.length_map]at hc o ⊢
  have L0:fu false (.gs b g 0 l.length cap 2 ex)=some (.int .i64 l.length):=rfl
  have hbf:b∉fp:=(List.nodup_cons.1 nd).1
  refine Fj (au aF mixed [] _ _ _ ?_)
  unfold BU
  simp only[cq,ah,Nat.reduceAdd,Nat.reduceBEq,Nat.reduceLeDiff,pn]
  refine bD aF mixed [] (fun y:Nat×AH×List AV×List AV×List Nat×List Nat=>y.1≤l.length∧ga H b g tail fp aL.cd (l.drop y.1) (dF aL.cA aL.aC (l.take y.1) k) y.2.1 y.2.2.1 y.2.2.2.1 y.2.2.2.2.1 y.2.2.2.2.2) (fun y=>l.length-y.1)
    (fun y=>kX (.gs b g 0 l.length cap 2 ex) (.int .i64 (k+ar aL.aC (l.take y.1))) (.int .i64 y.1) [] y.2.1) (0,H,[],as0,[],fp) ⟨by simp,by simpa[dF]using ga.start hg hown⟩ ⟨by simp[kX,cj,ck,ar],rfl,rfl⟩ ?_
  rintro⟨j,H',as1,as2,f1,f2⟩ ⟨hj,iv⟩
  simp only at hj iv
  simp only[cq,ah,Nat.reduceAdd,Nat.reduceBEq,Nat.reduceLeDiff,pn,kX,L0]
  refine ba (fun hlt=>?_) (fun hge=>?_)
  rotate_left
  · have hge:j=l.length:=by simp at hge;omega
    subst hge
    simp only[cq,ah,Nat.reduceAdd,Nat.reduceBEq,Nat.reduceLeDiff,pn]
    rw[List.drop_length,List.take_length]at iv
    rw[List.take_length]
    exact⟨rfl,rfl,iv.done ca (fun _=>rfl) ht hc⟩
  have hlt:j<l.length:=by simpa using hlt
  have htk:=cg aL.aC hlt
  have hle:=dy (c:=aL.aC) aL.aP hlt
  have hnn:=aT (c:=aL.aC) aL.aP (l.take j)
  have hmt:=fK aL.cA aL.aC hlt k
  rw[List.drop_eq_getElem_cons hlt]at iv
  obtain⟨x,hx⟩:∃x,x=l[j]:=⟨_,rfl⟩
  rw[←hx]at iv
  try rw[←hx]at htk hle
  try rw[←hx]at hmt
  obtain⟨kj,hkj⟩:∃kj,kj=k+ar aL.aC (l.take j):=⟨_,rfl⟩
  rw[←hkj]at hmt
  rw[←hkj]
  have hk0:0≤kj:=by omega
  have hkb:kj+aL.aC x≤9223372036854775000:=by omega
  obtain⟨h1,h2,cs,post,fx,fr,e1,e2,rfl,rfl,q1,q2⟩:=iv.open
  have hfx:∀c∈fx,c≠b:=fun c hc e=>hbf (by rw[iv.fps,←e];simp[hc])
  have ndx:fx.Nodup:=(List.nodup_append.1 (List.nodup_append.1 (iv.fps▸(List.nodup_cons.1 nd).2)).2.1).1
  have hn0:as1.length=j*2:=by rw[iv.o1.len,cY (sz:=2) (fun y _=>rfl),ca,List.length_take,Nat.min_eq_left hj]
  have i0:cm 2 (.gs b g 0 l.length cap 2 ex) (j:Int)=some (.gp b g as1.length):=by rw[fo hlt,hn0,Nat.zero_add]
  simp only[aL.aC]at hkb
  simp only[aL.cd,cT,cO,dU,dT,dM]at q1
  obtain⟨_,_,_,_,rfl,e0z,⟨rfl,rfl⟩,⟨_,_,_,_,rfl,e1z,⟨rfl,rfl⟩,⟨rfl,e2z⟩⟩⟩:=q1
  have hfxe:fx=[]:=by rw[e0z,e1z,e2z];simp
  have ow:aV H' [] [] fx:=by rw[hfxe];exact .nil
  have hlen0:=(rfl:H'.length=H'.length)
  have fr0:∀c,c≠b→c∉fx→H'[c]? = H'[c]?:=fun _ _ _=>rfl
  have w0:IntKind.i64.wrap (kj+1)=kj+1:=(aI (by omega) (by omega)).trans (by omega)
  have w1:IntKind.i64.wrap (kj+1+1)=kj+2:=(aI (by omega) (by omega)).trans (by omega)
  obtain⟨H0,hH0⟩:∃H0,H0=H':=⟨_,rfl⟩
  rw[←hH0]at iv q2 ow fr0 hlen0
  have fr0:∀c,c≠b→c∉fx→H'[c]? = H0[c]?:=fun _ _ _=>by rw[hH0]
  have hlen0:H'.length=H0.length:=by rw[hH0]
  rw[hH0]at ow
  replace e1:H'=h1++some (g,as1++qI [.int .i64 x.kind,.int .i64 x.n] (post++tail))::h2:=e1
  subst e1
  simp only[cq,ah,Nat.reduceAdd,Nat.reduceBEq,Nat.reduceLeDiff,pn,i0,fR e2 rfl,fP e2 rfl,w0,w1]
  refine⟨(j+1,_,as1++[.int .i64 (kj),.int .i64 (kj+1)],post,f1++[],fr),⟨hlt,?inv⟩,(by simp only;omega),⟨?le,rfl,rfl⟩⟩
  case inv=>
    simp only;rw[hmt]
    subst hfxe
    exact iv.next (y:=aL.cA x kj) nd q2 (by rw[←hlen0];(try simp)) (dC e2) (fun c h1 h2=>(dB e2 h1).trans (fr0 c h1 h2)) (.i (.i .nil))
  case le=>
    have hfin:k+ar aL.aC (l.take (j+1))=kj+2:=by rw[htk];simp only[aL.aC];omega
    rw[hfin,wN (by omega)];(try simp[kX,cj,ck])
theorem MR(l:List aj)(k:Int)(hk:0≤k)(hb:k+ar aj.aC l≤9223372036854775000)(hl:l.length≤1073741824)(ho:∀x∈l,x.ok 1073741824)(H:AH){a:AV}{fp:List Nat}(o:bO H a (.sl 13 (l.map aj.cd)) fp)(nd:fp.Nodup):
    T Tryz.prog Γ Fn.WV [a,.int .i64 k] H fun v h'=>v=.int .i64 (k+ar aj.aC l)∧(h'.length=H.length∧(∀c,c∉fp→h'[c]? = H[c]?)∧bO h' a (.sl 13 ((dF aj.cA aj.aC l k).map aj.cd)) fp):=by
  rcases o.fj with⟨rfl,e,rfl⟩|⟨b,g,cap,ex,as0,tail,fp,rfl,rfl,hg,hsz,ht,hc,hown⟩
  · have e:l=[]:=by simpa using e
    subst e
    have L0:fu false .nils=some (.int .i64 0):=rfl
    refine Hj (au aF mixed [] _ _ _ ?_)
    unfold A9
    simp only[cq,ah,Nat.reduceAdd,Nat.reduceBEq,Nat.reduceLeDiff,l7]
    refine bD aF mixed [] (fun _:Unit=>True) (fun _=>0) (fun _=>kZ .nils (.int .i64 k) (.int .i64 0) [] H) () trivial ⟨by simp[kZ,cj,ck],rfl,rfl⟩ ?_
    intro _ _
    simp only[cq,ah,Nat.reduceAdd,Nat.reduceBEq,Nat.reduceLeDiff,l7,kZ,L0,show decide ((0:Int)<0)=false from rfl]
    refine⟨rfl,by simp[ar],?_⟩
    first|exact⟨rfl,fun _ _=>rfl,.nil _⟩|exact⟨fun _ _=>trivial,.nil _⟩
  simp only[List.length_map]at hc o ⊢
  have L0:fu false (.gs b g 0 l.length cap 13 ex)=some (.int .i64 l.length):=rfl
  have hbf:b∉fp:=(List.nodup_cons.1 nd).1
  refine Hj (au aF mixed [] _ _ _ ?_)
  unfold A9
  simp only[cq,ah,Nat.reduceAdd,Nat.reduceBEq,Nat.reduceLeDiff,l7]
  refine bD aF mixed [] (fun y:Nat×AH×List AV×List AV×List Nat×List Nat=>y.1≤l.length∧ga H b g tail fp aj.cd (l.drop y.1) (dF aj.cA aj.aC (l.take y.1) k) y.2.1 y.2.2.1 y.2.2.2.1 y.2.2.2.2.1 y.2.2.2.2.2) (fun y=>l.length-y.1)
    (fun y=>kZ (.gs b g 0 l.length cap 13 ex) (.int .i64 (k+ar aj.aC (l.take y.1))) (.int .i64 y.1) [] y.2.1) (0,H,[],as0,[],fp) ⟨by simp,by simpa[dF]using ga.start hg hown⟩ ⟨by simp[kZ,cj,ck,ar],rfl,rfl⟩ ?_
  rintro⟨j,H',as1,as2,f1,f2⟩ ⟨hj,iv⟩
  simp only at hj iv
  simp only[cq,ah,Nat.reduceAdd,Nat.reduceBEq,Nat.reduceLeDiff,l7,kZ,L0]
  refine ba (fun hlt=>?_) (fun hge=>?_)
  rotate_left
  · have hge:j=l.length:=by simp at hge;omega
    subst hge
    simp only[cq,ah,Nat.reduceAdd,Nat.reduceBEq,Nat.reduceLeDiff,l7]
    rw[List.drop_length,List.take_length]at iv
    rw[List.take_length]
    exact⟨rfl,rfl,iv.done ca (fun _=>rfl) ht hc⟩
  have hlt:j<l.length:=by simpa using hlt
  have htk:=cg aj.aC hlt
  have hle:=dy (c:=aj.aC) aj.aP hlt
  have hnn:=aT (c:=aj.aC) aj.aP (l.take j)
  have hmt:=fK aj.cA aj.aC hlt k
  rw[List.drop_eq_getElem_cons hlt]at iv
  obtain⟨x,hx⟩:∃x,x=l[j]:=⟨_,rfl⟩
  rw[←hx]at iv
  try rw[←hx]at htk hle
  try rw[←hx]at hmt
  obtain⟨kj,hkj⟩:∃kj,kj=k+ar aj.aC (l.take j):=⟨_,rfl⟩
  rw[←hkj]at hmt
  rw[←hkj]
  have hk0:0≤kj:=by omega
  have hkb:kj+aj.aC x≤9223372036854775000:=by omega
  obtain⟨h1,h2,cs,post,fx,fr,e1,e2,rfl,rfl,q1,q2⟩:=iv.open
  have hfx:∀c∈fx,c≠b:=fun c hc e=>hbf (by rw[iv.fps,←e];simp[hc])
  have ndx:fx.Nodup:=(List.nodup_append.1 (List.nodup_append.1 (iv.fps▸(List.nodup_cons.1 nd).2)).2.1).1
  have hn0:as1.length=j*13:=by rw[iv.o1.len,cY (sz:=13) (fun y _=>rfl),ca,List.length_take,Nat.min_eq_left hj]
  have i0:cm 13 (.gs b g 0 l.length cap 13 ex) (j:Int)=some (.gp b g as1.length):=by rw[fo hlt,hn0,Nat.zero_add]
  have z0:=aT (c:=aL.aC) aL.aP x.message.args
  simp only[aj.aC]at hkb
  have hox:=ho _ (List.getElem_mem hlt);rw[←hx]at hox
  simp only[aj.cd,cT,cO,dU,dT,dM]at q1
  obtain⟨_,_,_,_,rfl,e0z,⟨rfl,rfl⟩,⟨_,_,_,_,rfl,e1z,⟨rfl,rfl⟩,⟨_,_,_,_,rfl,e2z,⟨rfl,rfl⟩,⟨_,_,_,_,rfl,e3z,⟨rfl,rfl⟩,⟨_,_,_,_,rfl,e4z,⟨rfl,rfl⟩,⟨_,_,_,_,rfl,e5z,⟨rfl,rfl⟩,⟨a6,_,g6,_,rfl,e6z,u6,⟨_,_,_,_,rfl,e7z,⟨rfl,rfl⟩,⟨_,_,_,_,rfl,e8z,⟨rfl,rfl⟩,⟨_,_,_,_,rfl,e9z,⟨rfl,rfl⟩,⟨_,_,_,_,rfl,e10z,⟨rfl,rfl⟩,⟨_,_,_,_,rfl,e11z,⟨rfl,rfl⟩,⟨_,_,_,_,rfl,e12z,⟨rfl,rfl⟩,⟨rfl,e13z⟩⟩⟩⟩⟩⟩⟩⟩⟩⟩⟩⟩⟩⟩:=q1
  have hfxe:fx=(g6++[]):=by rw[e0z,e1z,e2z,e3z,e4z,e5z,e6z,e7z,e8z,e9z,e10z,e11z,e12z,e13z];simp
  have ow:aV H' [a6] [.sl 2 (x.message.args.map aL.cd)] fx:=by rw[hfxe];exact(.o u6 .nil)
  obtain⟨c6a,c6b,c6c,c6d⟩:=u6.cell
  have hlen0:=(rfl:H'.length=H'.length)
  have fr0:∀c,c≠b→c∉fx→H'[c]? = H'[c]?:=fun _ _ _=>rfl
  have w0:IntKind.i64.wrap (kj+1)=kj+1:=(aI (by omega) (by omega)).trans (by omega)
  have w1:IntKind.i64.wrap (kj+1+1)=kj+2:=(aI (by omega) (by omega)).trans (by omega)
  have w2:IntKind.i64.wrap (kj+2+1)=kj+3:=(aI (by omega) (by omega)).trans (by omega)
  have w3:IntKind.i64.wrap (kj+3+1)=kj+4:=(aI (by omega) (by omega)).trans (by omega)
  have w4:IntKind.i64.wrap (kj+4+1)=kj+5:=(aI (by omega) (by omega)).trans (by omega)
  have w5:IntKind.i64.wrap (kj+5+1)=kj+6:=(aI (by omega) (by omega)).trans (by omega)
  have w7:IntKind.i64.wrap (kj+6+ar aL.aC x.message.args+1)=kj+7+ar aL.aC x.message.args:=(aI (by omega) (by omega)).trans (by omega)
  have w8:IntKind.i64.wrap (kj+7+ar aL.aC x.message.args+1)=kj+8+ar aL.aC x.message.args:=(aI (by omega) (by omega)).trans (by omega)
  have w9:IntKind.i64.wrap (kj+8+ar aL.aC x.message.args+1)=kj+9+ar aL.aC x.message.args:=(aI (by omega) (by omega)).trans (by omega)
  have w10:IntKind.i64.wrap (kj+9+ar aL.aC x.message.args+1)=kj+10+ar aL.aC x.message.args:=(aI (by omega) (by omega)).trans (by omega)
  have w11:IntKind.i64.wrap (kj+10+ar aL.aC x.message.args+1)=kj+11+ar aL.aC x.message.args:=(aI (by omega) (by omega)).trans (by omega)
  have w12:IntKind.i64.wrap (kj+11+ar aL.aC x.message.args+1)=kj+12+ar aL.aC x.message.args:=(aI (by omega) (by omega)).trans (by omega)
  obtain⟨H0,hH0⟩:∃H0,H0=H':=⟨_,rfl⟩
  rw[←hH0]at iv q2 ow fr0 hlen0
  have fr0:∀c,c≠b→c∉fx→H'[c]? = H0[c]?:=fun _ _ _=>by rw[hH0]
  have hlen0:H'.length=H0.length:=by rw[hH0]
  rw[hH0]at ow
  replace e1:H'=h1++some (g,as1++qI [.int .i64 x.to_,.int .i64 x.message.kind,.int .i64 x.message.pos,.int .i64 x.message.answer,.int .i64 x.message.question,.str x.message.name,a6,.int .i64 x.message.value.kind,.int .i64 x.message.value.n,.int .i64 x.message.count,.int .i64 x.message.tag.vat,.int .i64 x.message.tag.entity,.int .i64 x.message.tag.seq] (post++tail))::h2:=e1
  subst e1
  simp only[cq,ah,Nat.reduceAdd,Nat.reduceBEq,Nat.reduceLeDiff,l7,i0,fR e2 rfl,fP e2 rfl,w0,w1,w2,w3,w4,w5,w7,w8,w9,w10,w11,w12,c6a,c6b,c6c]
  refine aq.val (by simp only[EO]) (yO (kj+5) (by omega) (by omega) _) ?_
  simp only[cq,ah,Nat.reduceAdd,Nat.reduceBEq,Nat.reduceLeDiff,l7,i0,fR e2 rfl,fP e2 rfl,w0,w1,w2,w3,w4,w5,w7,w8,w9,w10,w11,w12,c6a,c6b,c6c]
  obtain⟨gi1,oi1,ni1,si1,bk1⟩:=aV.pick (A:=[]) (D:=[]) rfl (ow.frame fun c hc=>dB e2 (hfx c hc)) ndx
  refine aq.ref (by simp only[EO,c6d]) (LF x.message.args (kj+6) (by omega) (by omega) (hox.2) _ oi1 ni1) ?_
  rintro _ hn ⟨rfl,hlen1,hfr1,un1⟩
  replace ow:=bk1 hn _ hfr1 un1
  have fr1:∀c,c≠b→c∉fx→hn[c]? = H0[c]?:=fun c h1 h2=>(hfr1 c (fun h=>h2 (si1 c h))).trans ((dB e2 h1).trans (fr0 c h1 h2))
  have hlen1:hn.length=H0.length:=by rw[hlen1];(try rw[←hlen0]);(try simp)
  obtain⟨p1,r1,rfl,eh1⟩:=gP (eU (dC e2) (hfr1 b (fun h=>hfx b (si1 b h) rfl)))
  simp only[cq,ah,Nat.reduceAdd,Nat.reduceBEq,Nat.reduceLeDiff,l7,i0,fR eh1 rfl,fP eh1 rfl,w0,w1,w2,w3,w4,w5,w7,w8,w9,w10,w11,w12,c6a,c6b,c6c]
  refine⟨(j+1,_,as1++[.int .i64 (kj),.int .i64 (kj+1),.int .i64 (kj+2),.int .i64 (kj+3),.int .i64 (kj+4),.str (hO (kj+5)),a6,.int .i64 (kj+6+ar aL.aC x.message.args),.int .i64 (kj+7+ar aL.aC x.message.args),.int .i64 (kj+8+ar aL.aC x.message.args),.int .i64 (kj+9+ar aL.aC x.message.args),.int .i64 (kj+10+ar aL.aC x.message.args),.int .i64 (kj+11+ar aL.aC x.message.args)],post,f1++fx,fr),⟨hlt,?inv⟩,(by simp only;omega),⟨?le,rfl,rfl⟩⟩
  case inv=>
    simp only;rw[hmt]
    replace ow:=ow.frame fun c hc=>dB (x:=some (g,as1++qI [.int .i64 (kj),.int .i64 (kj+1),.int .i64 (kj+2),.int .i64 (kj+3),.int .i64 (kj+4),.str (hO (kj+5)),a6,.int .i64 (kj+6+ar aL.aC x.message.args),.int .i64 (kj+7+ar aL.aC x.message.args),.int .i64 (kj+8+ar aL.aC x.message.args),.int .i64 (kj+9+ar aL.aC x.message.args),.int .i64 (kj+10+ar aL.aC x.message.args),.int .i64 (kj+11+ar aL.aC x.message.args)] (post++tail))) eh1 (hfx c hc)
    obtain⟨F0,R0,E0,O0,hz⟩:=ow
    have hz:R0=[]:=hz
    refine iv.next (y:=aj.cA x kj) nd q2 (by rw[←hlen1];(try simp)) (dC eh1) (fun c h1 h2=>(dB eh1 h1).trans (fr1 c h1 h2)) ?_
    rw[E0,hz];exact(.i (.i (.i (.i (.i (.s (.o O0 (.i (.i (.i (.i (.i (.i .nil)))))))))))))
  case le=>
    have hfin:k+ar aj.aC (l.take (j+1))=kj+12+ar aL.aC x.message.args:=by rw[htk];simp only[aj.aC];omega
    rw[hfin,wN (by omega)];(try simp[kZ,cj,ck])
theorem Hy(β:Bool)(l:List ae)(k:Int)(hk:0≤k)(hb:k+ar ae.aC l≤9223372036854775000)(hl:l.length≤1073741824)(h:AH):
    T Tryz.prog Γ Fn.Vt [.vs β 2 false ((dF ae.cA ae.aC l k).map (ae.c β)),.int .i64 k] h fun v h'=>v=.int .i64 (k+ar ae.aC l)∧h'=h:=by
  obtain⟨M,hM⟩:∃M,M=dF ae.cA ae.aC l k:=⟨_,rfl⟩
  have hlen:M.length=l.length:=by rw[hM];exact ca
  rw[←hM]
  have L0:=bH β 2 false M (ae.c β)
  rw[hlen]at L0
  refine Mh (au aF mixed [] _ _ _ ?_)
  unfold F9
  simp only[cq,ah,Nat.reduceAdd,Nat.reduceBEq,Nat.reduceLeDiff,vY]
  refine bD aF mixed [] (fun j:Nat=>j≤l.length) (fun j=>l.length-j)
    (fun j=>uD (.vs β 2 false (M.map (ae.c β))) (.int .i64 (k+ar ae.aC (l.take j))) (.int .i64 j) [] h) 0 (by omega) ⟨by simp[uD,cj,ck,ar],rfl,rfl⟩ ?_
  intro j hj
  simp only[cq,ah,Nat.reduceAdd,Nat.reduceBEq,Nat.reduceLeDiff,vY,uD,L0]
  refine ba (fun hlt=>?_) (fun hge=>?_)
  rotate_left
  · have hge:j=l.length:=by simp at hge;omega
    subst hge
    simp only[cq,ah,Nat.reduceAdd,Nat.reduceBEq,Nat.reduceLeDiff,vY]
    rw[List.take_length]
    first|exact⟨rfl,rfl⟩|exact rfl
  have hlt:j<l.length:=by simpa using hlt
  have htk:=cg ae.aC hlt
  have hle:=dy (c:=ae.aC) ae.aP hlt
  have hnn:=aT (c:=ae.aC) ae.aP (l.take j)
  have hg:=gn ae.cA ae.aC hlt k
  have hltM:j<M.length:=by omega
  have i0:=bW (β:=β) (sz:=2) (ex:=false) (ce:=(ae.c β)) hltM
  rw[←hM,List.getElem?_eq_getElem hltM]at hg
  injection hg with hg
  rw[hg]at i0
  obtain⟨x,hx⟩:∃x,x=l[j]:=⟨_,rfl⟩
  try rw[←hx]at i0
  try rw[←hx]at htk hle
  obtain⟨kj,hkj⟩:∃kj,kj=k+ar ae.aC (l.take j):=⟨_,rfl⟩
  rw[←hkj]at i0
  rw[←hkj]
  have hk0:0≤kj:=by omega
  have hkb:kj+ae.aC x≤9223372036854775000:=by omega
  simp only[ae.aC]at hkb
  have w0:IntKind.i64.wrap (kj+1)=kj+1:=(aI (by omega) (by omega)).trans (by omega)
  have w1:IntKind.i64.wrap (kj+1+1)=kj+2:=(aI (by omega) (by omega)).trans (by omega)
  simp only[cq,ah,Nat.reduceAdd,Nat.reduceBEq,Nat.reduceLeDiff,vY,i0,ae.c,ae.cA,bne_self_eq_false,beq_self_eq_true,w0,w1]
  have hfin:k+ar ae.aC (l.take (j+1))=kj+2:=by rw[htk];simp only[ae.aC];omega
  exact⟨j+1,hlt,by omega,⟨by rw[hfin,wN (by omega)];(try simp[uD,cj,ck]),rfl,rfl⟩⟩
theorem Fp(β:Bool)(l:List aA)(k:Int)(hk:0≤k)(hb:k+ar aA.aC l≤9223372036854775000)(hl:l.length≤1073741824)(ho:∀x∈l,x.ok 1073741824)(h:AH):
    T Tryz.prog Γ Fn.Vb [.vs β 7 false ((dF aA.cA aA.aC l k).map (aA.c β)),.int .i64 k] h fun v h'=>v=.int .i64 (k+ar aA.aC l)∧h'=h:=by
  obtain⟨M,hM⟩:∃M,M=dF aA.cA aA.aC l k:=⟨_,rfl⟩
  have hlen:M.length=l.length:=by rw[hM];exact ca
  rw[←hM]
  have L0:=bH β 7 false M (aA.c β)
  rw[hlen]at L0
  refine Q6 (au aF mixed [] _ _ _ ?_)
  unfold Jl
  simp only[cq,ah,Nat.reduceAdd,Nat.reduceBEq,Nat.reduceLeDiff,pL]
  refine bD aF mixed [] (fun j:Nat=>j≤l.length) (fun j=>l.length-j)
    (fun j=>vF (.vs β 7 false (M.map (aA.c β))) (.int .i64 (k+ar aA.aC (l.take j))) (.int .i64 j) [] h) 0 (by omega) ⟨by simp[vF,cj,ck,ar],rfl,rfl⟩ ?_
  intro j hj
  simp only[cq,ah,Nat.reduceAdd,Nat.reduceBEq,Nat.reduceLeDiff,pL,vF,L0]
  refine ba (fun hlt=>?_) (fun hge=>?_)
  rotate_left
  · have hge:j=l.length:=by simp at hge;omega
    subst hge
    simp only[cq,ah,Nat.reduceAdd,Nat.reduceBEq,Nat.reduceLeDiff,pL]
    rw[List.take_length]
    first|exact⟨rfl,rfl⟩|exact rfl
  have hlt:j<l.length:=by simpa using hlt
  have htk:=cg aA.aC hlt
  have hle:=dy (c:=aA.aC) aA.aP hlt
  have hnn:=aT (c:=aA.aC) aA.aP (l.take j)
  have hg:=gn aA.cA aA.aC hlt k
  have hltM:j<M.length:=by omega
  have i0:=bW (β:=β) (sz:=7) (ex:=false) (ce:=(aA.c β)) hltM
  rw[←hM,List.getElem?_eq_getElem hltM]at hg
  injection hg with hg
  rw[hg]at i0
  obtain⟨x,hx⟩:∃x,x=l[j]:=⟨_,rfl⟩
  try rw[←hx]at i0
  try rw[←hx]at htk hle
  obtain⟨kj,hkj⟩:∃kj,kj=k+ar aA.aC (l.take j):=⟨_,rfl⟩
  rw[←hkj]at i0
  rw[←hkj]
  have hk0:0≤kj:=by omega
  have hkb:kj+aA.aC x≤9223372036854775000:=by omega
  have z0:=aT (c:=ae.aC) ae.aP x.args
  simp only[aA.aC]at hkb
  have hox:=ho _ (List.getElem_mem hlt);rw[←hx]at hox
  have w0:IntKind.i64.wrap (kj+1)=kj+1:=(aI (by omega) (by omega)).trans (by omega)
  have w1:IntKind.i64.wrap (kj+1+1)=kj+2:=(aI (by omega) (by omega)).trans (by omega)
  have y2:decide (kj+2+ar ae.aC x.args<0)=false:=by simp;omega
  have w3:IntKind.i64.wrap (kj+2+ar ae.aC x.args+1)=kj+3+ar ae.aC x.args:=(aI (by omega) (by omega)).trans (by omega)
  have w4:IntKind.i64.wrap (kj+3+ar ae.aC x.args+1)=kj+4+ar ae.aC x.args:=(aI (by omega) (by omega)).trans (by omega)
  have w5:IntKind.i64.wrap (kj+4+ar ae.aC x.args+1)=kj+5+ar ae.aC x.args:=(aI (by omega) (by omega)).trans (by omega)
  have w6:IntKind.i64.wrap (kj+5+ar ae.aC x.args+1)=kj+6+ar ae.aC x.args:=(aI (by omega) (by omega)).trans (by omega)
  simp only[cq,ah,Nat.reduceAdd,Nat.reduceBEq,Nat.reduceLeDiff,pL,px,i0,aA.c,aA.cA,bne_self_eq_false,beq_self_eq_true,w0,w1,y2,w3,w4,w5,w6]
  refine aq.val (by simp only[EO]) (yO (kj+1) (by omega) (by omega) _) ?_
  simp only[cq,ah,Nat.reduceAdd,Nat.reduceBEq,Nat.reduceLeDiff,pL,px,i0,aA.c,aA.cA,bne_self_eq_false,beq_self_eq_true,w0,w1,y2,w3,w4,w5,w6]
  refine aq.val (by simp only[EO]) (Hy β x.args (kj+2) (by omega) (by omega) (hox.2) _) ?_
  simp only[cq,ah,Nat.reduceAdd,Nat.reduceBEq,Nat.reduceLeDiff,pL,px,i0,aA.c,aA.cA,bne_self_eq_false,beq_self_eq_true,w0,w1,y2,w3,w4,w5,w6]
  have hfin:k+ar aA.aC (l.take (j+1))=kj+6+ar ae.aC x.args:=by rw[htk];simp only[aA.aC];omega
  exact⟨j+1,hlt,by omega,⟨by rw[hfin,wN (by omega)];(try simp[vF,cj,ck]),rfl,rfl⟩⟩
theorem Ti(β:Bool)(l:List aH)(k:Int)(hk:0≤k)(hb:k+ar aH.aC l≤9223372036854775000)(hl:l.length≤1073741824)(h:AH):
    T Tryz.prog Γ Fn.WN [.vs β 2 false ((dF aH.cA aH.aC l k).map (aH.c β)),.int .i64 k] h fun v h'=>v=.int .i64 (k+ar aH.aC l)∧h'=h:=by
  obtain⟨M,hM⟩:∃M,M=dF aH.cA aH.aC l k:=⟨_,rfl⟩
  have hlen:M.length=l.length:=by rw[hM];exact ca
  rw[←hM]
  have L0:=bH β 2 false M (aH.c β)
  rw[hlen]at L0
  refine RP (au aF mixed [] _ _ _ ?_)
  unfold I7
  simp only[cq,ah,Nat.reduceAdd,Nat.reduceBEq,Nat.reduceLeDiff,wM]
  refine bD aF mixed [] (fun j:Nat=>j≤l.length) (fun j=>l.length-j)
    (fun j=>vp (.vs β 2 false (M.map (aH.c β))) (.int .i64 (k+ar aH.aC (l.take j))) (.int .i64 j) [] h) 0 (by omega) ⟨by simp[vp,cj,ck,ar],rfl,rfl⟩ ?_
  intro j hj
  simp only[cq,ah,Nat.reduceAdd,Nat.reduceBEq,Nat.reduceLeDiff,wM,vp,L0]
  refine ba (fun hlt=>?_) (fun hge=>?_)
  rotate_left
  · have hge:j=l.length:=by simp at hge;omega
    subst hge
    simp only[cq,ah,Nat.reduceAdd,Nat.reduceBEq,Nat.reduceLeDiff,wM]
    rw[List.take_length]
    first|exact⟨rfl,rfl⟩|exact rfl
  have hlt:j<l.length:=by simpa using hlt
  have htk:=cg aH.aC hlt
  have hle:=dy (c:=aH.aC) aH.aP hlt
  have hnn:=aT (c:=aH.aC) aH.aP (l.take j)
  have hg:=gn aH.cA aH.aC hlt k
  have hltM:j<M.length:=by omega
  have i0:=bW (β:=β) (sz:=2) (ex:=false) (ce:=(aH.c β)) hltM
  rw[←hM,List.getElem?_eq_getElem hltM]at hg
  injection hg with hg
  rw[hg]at i0
  obtain⟨x,hx⟩:∃x,x=l[j]:=⟨_,rfl⟩
  try rw[←hx]at i0
  try rw[←hx]at htk hle
  obtain⟨kj,hkj⟩:∃kj,kj=k+ar aH.aC (l.take j):=⟨_,rfl⟩
  rw[←hkj]at i0
  rw[←hkj]
  have hk0:0≤kj:=by omega
  have hkb:kj+aH.aC x≤9223372036854775000:=by omega
  simp only[aH.aC]at hkb
  have w0:IntKind.i64.wrap (kj+1)=kj+1:=(aI (by omega) (by omega)).trans (by omega)
  have w1:IntKind.i64.wrap (kj+1+1)=kj+2:=(aI (by omega) (by omega)).trans (by omega)
  simp only[cq,ah,Nat.reduceAdd,Nat.reduceBEq,Nat.reduceLeDiff,wM,i0,aH.c,aH.cA,bne_self_eq_false,beq_self_eq_true,w0,w1]
  have hfin:k+ar aH.aC (l.take (j+1))=kj+2:=by rw[htk];simp only[aH.aC];omega
  exact⟨j+1,hlt,by omega,⟨by rw[hfin,wN (by omega)];(try simp[vp,cj,ck]),rfl,rfl⟩⟩
theorem MD(β:Bool)(l:List an)(k:Int)(hk:0≤k)(hb:k+ar an.aC l≤9223372036854775000)(hl:l.length≤1073741824)(ho:∀x∈l,x.ok 1073741824)(h:AH):
    T Tryz.prog Γ Fn.Wh [.vs β 12 false ((dF an.cA an.aC l k).map (an.c β)),.int .i64 k] h fun v h'=>v=.int .i64 (k+ar an.aC l)∧h'=h:=by
  obtain⟨M,hM⟩:∃M,M=dF an.cA an.aC l k:=⟨_,rfl⟩
  have hlen:M.length=l.length:=by rw[hM];exact ca
  rw[←hM]
  have L0:=bH β 12 false M (an.c β)
  rw[hlen]at L0
  refine P7 (au aF mixed [] _ _ _ ?_)
  unfold Ip
  simp only[cq,ah,Nat.reduceAdd,Nat.reduceBEq,Nat.reduceLeDiff,mW]
  refine bD aF mixed [] (fun j:Nat=>j≤l.length) (fun j=>l.length-j)
    (fun j=>uh (.vs β 12 false (M.map (an.c β))) (.int .i64 (k+ar an.aC (l.take j))) (.int .i64 j) [] h) 0 (by omega) ⟨by simp[uh,cj,ck,ar],rfl,rfl⟩ ?_
  intro j hj
  simp only[cq,ah,Nat.reduceAdd,Nat.reduceBEq,Nat.reduceLeDiff,mW,uh,L0]
  refine ba (fun hlt=>?_) (fun hge=>?_)
  rotate_left
  · have hge:j=l.length:=by simp at hge;omega
    subst hge
    simp only[cq,ah,Nat.reduceAdd,Nat.reduceBEq,Nat.reduceLeDiff,mW]
    rw[List.take_length]
    first|exact⟨rfl,rfl⟩|exact rfl
  have hlt:j<l.length:=by simpa using hlt
  have htk:=cg an.aC hlt
  have hle:=dy (c:=an.aC) an.aP hlt
  have hnn:=aT (c:=an.aC) an.aP (l.take j)
  have hg:=gn an.cA an.aC hlt k
  have hltM:j<M.length:=by omega
  have i0:=bW (β:=β) (sz:=12) (ex:=false) (ce:=(an.c β)) hltM
  rw[←hM,List.getElem?_eq_getElem hltM]at hg
  injection hg with hg
  rw[hg]at i0
  obtain⟨x,hx⟩:∃x,x=l[j]:=⟨_,rfl⟩
  try rw[←hx]at i0
  try rw[←hx]at htk hle
  obtain⟨kj,hkj⟩:∃kj,kj=k+ar an.aC (l.take j):=⟨_,rfl⟩
  rw[←hkj]at i0
  rw[←hkj]
  have hk0:0≤kj:=by omega
  have hkb:kj+an.aC x≤9223372036854775000:=by omega
  have z0:=aT (c:=ae.aC) ae.aP x.slots
  have z1:=aT (c:=aA.aC) aA.aP x.queue
  have z2:=aT (c:=aH.aC) aH.aP x.askers
  simp only[an.aC]at hkb
  have hox:=ho _ (List.getElem_mem hlt);rw[←hx]at hox
  have w0:IntKind.i64.wrap (kj+1)=kj+1:=(aI (by omega) (by omega)).trans (by omega)
  have w1:IntKind.i64.wrap (kj+1+1)=kj+2:=(aI (by omega) (by omega)).trans (by omega)
  have y2:decide (kj+2+ar ae.aC x.slots<0)=false:=by simp;omega
  have w3:IntKind.i64.wrap (kj+2+ar ae.aC x.slots+1)=kj+3+ar ae.aC x.slots:=(aI (by omega) (by omega)).trans (by omega)
  have w4:IntKind.i64.wrap (kj+3+ar ae.aC x.slots+1)=kj+4+ar ae.aC x.slots:=(aI (by omega) (by omega)).trans (by omega)
  have w5:IntKind.i64.wrap (kj+4+ar ae.aC x.slots+1)=kj+5+ar ae.aC x.slots:=(aI (by omega) (by omega)).trans (by omega)
  have y6:decide (kj+5+ar ae.aC x.slots+ar aA.aC x.queue<0)=false:=by simp;omega
  have y7:decide (kj+5+ar ae.aC x.slots+ar aA.aC x.queue+ar aH.aC x.askers<0)=false:=by simp;omega
  have w8:IntKind.i64.wrap (kj+5+ar ae.aC x.slots+ar aA.aC x.queue+ar aH.aC x.askers+1)=kj+6+ar ae.aC x.slots+ar aA.aC x.queue+ar aH.aC x.askers:=(aI (by omega) (by omega)).trans (by omega)
  have w9:IntKind.i64.wrap (kj+6+ar ae.aC x.slots+ar aA.aC x.queue+ar aH.aC x.askers+1)=kj+7+ar ae.aC x.slots+ar aA.aC x.queue+ar aH.aC x.askers:=(aI (by omega) (by omega)).trans (by omega)
  have w10:IntKind.i64.wrap (kj+7+ar ae.aC x.slots+ar aA.aC x.queue+ar aH.aC x.askers+1)=kj+8+ar ae.aC x.slots+ar aA.aC x.queue+ar aH.aC x.askers:=(aI (by omega) (by omega)).trans (by omega)
  have w11:IntKind.i64.wrap (kj+8+ar ae.aC x.slots+ar aA.aC x.queue+ar aH.aC x.askers+1)=kj+9+ar ae.aC x.slots+ar aA.aC x.queue+ar aH.aC x.askers:=(aI (by omega) (by omega)).trans (by omega)
  simp only[cq,ah,Nat.reduceAdd,Nat.reduceBEq,Nat.reduceLeDiff,mW,i0,an.c,an.cA,bne_self_eq_false,beq_self_eq_true,w0,w1,y2,w3,w4,w5,y6,y7,w8,w9,w10,w11]
  refine aq.val (by simp only[EO]) (Hy β x.slots (kj+2) (by omega) (by omega) (hox.1) _) ?_
  simp only[cq,ah,Nat.reduceAdd,Nat.reduceBEq,Nat.reduceLeDiff,mW,i0,an.c,an.cA,bne_self_eq_false,beq_self_eq_true,w0,w1,y2,w3,w4,w5,y6,y7,w8,w9,w10,w11]
  refine aq.val (by simp only[EO]) (Fp β x.queue (kj+5+ar ae.aC x.slots) (by omega) (by omega) (hox.2.1) (hox.2.2.1) _) ?_
  simp only[cq,ah,Nat.reduceAdd,Nat.reduceBEq,Nat.reduceLeDiff,mW,i0,an.c,an.cA,bne_self_eq_false,beq_self_eq_true,w0,w1,y2,w3,w4,w5,y6,y7,w8,w9,w10,w11]
  refine aq.val (by simp only[EO]) (Ti β x.askers (kj+5+ar ae.aC x.slots+ar aA.aC x.queue) (by omega) (by omega) (hox.2.2.2) _) ?_
  simp only[cq,ah,Nat.reduceAdd,Nat.reduceBEq,Nat.reduceLeDiff,mW,i0,an.c,an.cA,bne_self_eq_false,beq_self_eq_true,w0,w1,y2,w3,w4,w5,y6,y7,w8,w9,w10,w11]
  have hfin:k+ar an.aC (l.take (j+1))=kj+9+ar ae.aC x.slots+ar aA.aC x.queue+ar aH.aC x.askers:=by rw[htk];simp only[an.aC];omega
  exact⟨j+1,hlt,by omega,⟨by rw[hfin,wN (by omega)];(try simp[uh,cj,ck]),rfl,rfl⟩⟩
theorem P3(β:Bool)(l:List aD)(k:Int)(hk:0≤k)(hb:k+ar aD.aC l≤9223372036854775000)(hl:l.length≤1073741824)(h:AH):
    T Tryz.prog Γ Fn.VT [.vs β 3 false ((dF aD.cA aD.aC l k).map (aD.c β)),.int .i64 k] h fun v h'=>v=.int .i64 (k+ar aD.aC l)∧h'=h:=by
  obtain⟨M,hM⟩:∃M,M=dF aD.cA aD.aC l k:=⟨_,rfl⟩
  have hlen:M.length=l.length:=by rw[hM];exact ca
  rw[←hM]
  have L0:=bH β 3 false M (aD.c β)
  rw[hlen]at L0
  refine Ll (au aF mixed [] _ _ _ ?_)
  unfold Jc
  simp only[cq,ah,Nat.reduceAdd,Nat.reduceBEq,Nat.reduceLeDiff,xd]
  refine bD aF mixed [] (fun j:Nat=>j≤l.length) (fun j=>l.length-j)
    (fun j=>vz (.vs β 3 false (M.map (aD.c β))) (.int .i64 (k+ar aD.aC (l.take j))) (.int .i64 j) [] h) 0 (by omega) ⟨by simp[vz,cj,ck,ar],rfl,rfl⟩ ?_
  intro j hj
  simp only[cq,ah,Nat.reduceAdd,Nat.reduceBEq,Nat.reduceLeDiff,xd,vz,L0]
  refine ba (fun hlt=>?_) (fun hge=>?_)
  rotate_left
  · have hge:j=l.length:=by simp at hge;omega
    subst hge
    simp only[cq,ah,Nat.reduceAdd,Nat.reduceBEq,Nat.reduceLeDiff,xd]
    rw[List.take_length]
    first|exact⟨rfl,rfl⟩|exact rfl
  have hlt:j<l.length:=by simpa using hlt
  have htk:=cg aD.aC hlt
  have hle:=dy (c:=aD.aC) aD.aP hlt
  have hnn:=aT (c:=aD.aC) aD.aP (l.take j)
  have hg:=gn aD.cA aD.aC hlt k
  have hltM:j<M.length:=by omega
  have i0:=bW (β:=β) (sz:=3) (ex:=false) (ce:=(aD.c β)) hltM
  rw[←hM,List.getElem?_eq_getElem hltM]at hg
  injection hg with hg
  rw[hg]at i0
  obtain⟨x,hx⟩:∃x,x=l[j]:=⟨_,rfl⟩
  try rw[←hx]at i0
  try rw[←hx]at htk hle
  obtain⟨kj,hkj⟩:∃kj,kj=k+ar aD.aC (l.take j):=⟨_,rfl⟩
  rw[←hkj]at i0
  rw[←hkj]
  have hk0:0≤kj:=by omega
  have hkb:kj+aD.aC x≤9223372036854775000:=by omega
  simp only[aD.aC]at hkb
  have w0:IntKind.i64.wrap (kj+1)=kj+1:=(aI (by omega) (by omega)).trans (by omega)
  have w1:IntKind.i64.wrap (kj+1+1)=kj+2:=(aI (by omega) (by omega)).trans (by omega)
  have w2:IntKind.i64.wrap (kj+2+1)=kj+3:=(aI (by omega) (by omega)).trans (by omega)
  simp only[cq,ah,Nat.reduceAdd,Nat.reduceBEq,Nat.reduceLeDiff,xd,i0,aD.c,aD.cA,bne_self_eq_false,beq_self_eq_true,w0,w1,w2]
  have hfin:k+ar aD.aC (l.take (j+1))=kj+3:=by rw[htk];simp only[aD.aC];omega
  exact⟨j+1,hlt,by omega,⟨by rw[hfin,wN (by omega)];(try simp[vz,cj,ck]),rfl,rfl⟩⟩
theorem GA(β:Bool)(l:List ak)(k:Int)(hk:0≤k)(hb:k+ar ak.aC l≤9223372036854775000)(hl:l.length≤1073741824)(h:AH):
    T Tryz.prog Γ Fn.UA [.vs β 2 false ((dF ak.cA ak.aC l k).map (ak.c β)),.int .i64 k] h fun v h'=>v=.int .i64 (k+ar ak.aC l)∧h'=h:=by
  obtain⟨M,hM⟩:∃M,M=dF ak.cA ak.aC l k:=⟨_,rfl⟩
  have hlen:M.length=l.length:=by rw[hM];exact ca
  rw[←hM]
  have L0:=bH β 2 false M (ak.c β)
  rw[hlen]at L0
  refine QA (au aF mixed [] _ _ _ ?_)
  unfold GG
  simp only[cq,ah,Nat.reduceAdd,Nat.reduceBEq,Nat.reduceLeDiff,wY]
  refine bD aF mixed [] (fun j:Nat=>j≤l.length) (fun j=>l.length-j)
    (fun j=>uv (.vs β 2 false (M.map (ak.c β))) (.int .i64 (k+ar ak.aC (l.take j))) (.int .i64 j) [] h) 0 (by omega) ⟨by simp[uv,cj,ck,ar],rfl,rfl⟩ ?_
  intro j hj
  simp only[cq,ah,Nat.reduceAdd,Nat.reduceBEq,Nat.reduceLeDiff,wY,uv,L0]
  refine ba (fun hlt=>?_) (fun hge=>?_)
  rotate_left
  · have hge:j=l.length:=by simp at hge;omega
    subst hge
    simp only[cq,ah,Nat.reduceAdd,Nat.reduceBEq,Nat.reduceLeDiff,wY]
    rw[List.take_length]
    first|exact⟨rfl,rfl⟩|exact rfl
  have hlt:j<l.length:=by simpa using hlt
  have htk:=cg ak.aC hlt
  have hle:=dy (c:=ak.aC) ak.aP hlt
  have hnn:=aT (c:=ak.aC) ak.aP (l.take j)
  have hg:=gn ak.cA ak.aC hlt k
  have hltM:j<M.length:=by omega
  have i0:=bW (β:=β) (sz:=2) (ex:=false) (ce:=(ak.c β)) hltM
  rw[←hM,List.getElem?_eq_getElem hltM]at hg
  injection hg with hg
  rw[hg]at i0
  obtain⟨x,hx⟩:∃x,x=l[j]:=⟨_,rfl⟩
  try rw[←hx]at i0
  try rw[←hx]at htk hle
  obtain⟨kj,hkj⟩:∃kj,kj=k+ar ak.aC (l.take j):=⟨_,rfl⟩
  rw[←hkj]at i0
  rw[←hkj]
  have hk0:0≤kj:=by omega
  have hkb:kj+ak.aC x≤9223372036854775000:=by omega
  simp only[ak.aC]at hkb
  have w0:IntKind.i64.wrap (kj+1)=kj+1:=(aI (by omega) (by omega)).trans (by omega)
  have w1:IntKind.i64.wrap (kj+1+1)=kj+2:=(aI (by omega) (by omega)).trans (by omega)
  simp only[cq,ah,Nat.reduceAdd,Nat.reduceBEq,Nat.reduceLeDiff,wY,i0,ak.c,ak.cA,bne_self_eq_false,beq_self_eq_true,w0,w1]
  have hfin:k+ar ak.aC (l.take (j+1))=kj+2:=by rw[htk];simp only[ak.aC];omega
  exact⟨j+1,hlt,by omega,⟨by rw[hfin,wN (by omega)];(try simp[uv,cj,ck]),rfl,rfl⟩⟩
theorem OD(β:Bool)(l:List aM)(k:Int)(hk:0≤k)(hb:k+ar aM.aC l≤9223372036854775000)(hl:l.length≤1073741824)(ho:∀x∈l,x.ok 1073741824)(h:AH):
    T Tryz.prog Γ Fn.W4 [.vs β 7 false ((dF aM.cA aM.aC l k).map (aM.c β)),.int .i64 k] h fun v h'=>v=.int .i64 (k+ar aM.aC l)∧h'=h:=by
  obtain⟨M,hM⟩:∃M,M=dF aM.cA aM.aC l k:=⟨_,rfl⟩
  have hlen:M.length=l.length:=by rw[hM];exact ca
  rw[←hM]
  have L0:=bH β 7 false M (aM.c β)
  rw[hlen]at L0
  refine Qy (au aF mixed [] _ _ _ ?_)
  unfold Fb
  simp only[cq,ah,Nat.reduceAdd,Nat.reduceBEq,Nat.reduceLeDiff,nU]
  refine bD aF mixed [] (fun j:Nat=>j≤l.length) (fun j=>l.length-j)
    (fun j=>ub (.vs β 7 false (M.map (aM.c β))) (.int .i64 (k+ar aM.aC (l.take j))) (.int .i64 j) [] h) 0 (by omega) ⟨by simp[ub,cj,ck,ar],rfl,rfl⟩ ?_
  intro j hj
  simp only[cq,ah,Nat.reduceAdd,Nat.reduceBEq,Nat.reduceLeDiff,nU,ub,L0]
  refine ba (fun hlt=>?_) (fun hge=>?_)
  rotate_left
  · have hge:j=l.length:=by simp at hge;omega
    subst hge
    simp only[cq,ah,Nat.reduceAdd,Nat.reduceBEq,Nat.reduceLeDiff,nU]
    rw[List.take_length]
    first|exact⟨rfl,rfl⟩|exact rfl
  have hlt:j<l.length:=by simpa using hlt
  have htk:=cg aM.aC hlt
  have hle:=dy (c:=aM.aC) aM.aP hlt
  have hnn:=aT (c:=aM.aC) aM.aP (l.take j)
  have hg:=gn aM.cA aM.aC hlt k
  have hltM:j<M.length:=by omega
  have i0:=bW (β:=β) (sz:=7) (ex:=false) (ce:=(aM.c β)) hltM
  rw[←hM,List.getElem?_eq_getElem hltM]at hg
  injection hg with hg
  rw[hg]at i0
  obtain⟨x,hx⟩:∃x,x=l[j]:=⟨_,rfl⟩
  try rw[←hx]at i0
  try rw[←hx]at htk hle
  obtain⟨kj,hkj⟩:∃kj,kj=k+ar aM.aC (l.take j):=⟨_,rfl⟩
  rw[←hkj]at i0
  rw[←hkj]
  have hk0:0≤kj:=by omega
  have hkb:kj+aM.aC x≤9223372036854775000:=by omega
  have z0:=aT (c:=aD.aC) aD.aP x.exports
  have z1:=aT (c:=ak.aC) ak.aP x.questions
  have z2:=aT (c:=ak.aC) ak.aP x.answers
  simp only[aM.aC]at hkb
  have hox:=ho _ (List.getElem_mem hlt);rw[←hx]at hox
  have w0:IntKind.i64.wrap (kj+1)=kj+1:=(aI (by omega) (by omega)).trans (by omega)
  have w1:IntKind.i64.wrap (kj+1+1)=kj+2:=(aI (by omega) (by omega)).trans (by omega)
  have m1:bU .rem .num (.int .i64 (kj+1)) (.int .i64 3)=some (.int .i64 ((kj+1) % 3)):=by simp only[bU,fh,if_true];rw[if_neg (by decide),Int.tmod_eq_emod_of_nonneg (by omega)]
  have y2:decide (kj+2+ar aD.aC x.exports<0)=false:=by simp;omega
  have w3:IntKind.i64.wrap (kj+2+ar aD.aC x.exports+1)=kj+3+ar aD.aC x.exports:=(aI (by omega) (by omega)).trans (by omega)
  have y4:decide (kj+3+ar aD.aC x.exports+ar ak.aC x.questions<0)=false:=by simp;omega
  have w5:IntKind.i64.wrap (kj+3+ar aD.aC x.exports+ar ak.aC x.questions+1)=kj+4+ar aD.aC x.exports+ar ak.aC x.questions:=(aI (by omega) (by omega)).trans (by omega)
  have y6:decide (kj+4+ar aD.aC x.exports+ar ak.aC x.questions+ar ak.aC x.answers<0)=false:=by simp;omega
  simp only[cq,ah,Nat.reduceAdd,Nat.reduceBEq,Nat.reduceLeDiff,nU,i0,aM.c,aM.cA,bne_self_eq_false,beq_self_eq_true,w0,w1,m1,aE,y2,w3,y4,w5,y6]
  refine aq.val (by simp only[EO]) (P3 β x.exports (kj+2) (by omega) (by omega) (hox.1) _) ?_
  simp only[cq,ah,Nat.reduceAdd,Nat.reduceBEq,Nat.reduceLeDiff,nU,i0,aM.c,aM.cA,bne_self_eq_false,beq_self_eq_true,w0,w1,m1,aE,y2,w3,y4,w5,y6]
  refine aq.val (by simp only[EO]) (GA β x.questions (kj+3+ar aD.aC x.exports) (by omega) (by omega) (hox.2.1) _) ?_
  simp only[cq,ah,Nat.reduceAdd,Nat.reduceBEq,Nat.reduceLeDiff,nU,i0,aM.c,aM.cA,bne_self_eq_false,beq_self_eq_true,w0,w1,m1,aE,y2,w3,y4,w5,y6]
  refine aq.val (by simp only[EO]) (GA β x.answers (kj+4+ar aD.aC x.exports+ar ak.aC x.questions) (by omega) (by omega) (hox.2.2) _) ?_
  simp only[cq,ah,Nat.reduceAdd,Nat.reduceBEq,Nat.reduceLeDiff,nU,i0,aM.c,aM.cA,bne_self_eq_false,beq_self_eq_true,w0,w1,m1,aE,y2,w3,y4,w5,y6]
  have hfin:k+ar aM.aC (l.take (j+1))=kj+4+ar aD.aC x.exports+ar ak.aC x.questions+ar ak.aC x.answers:=by rw[htk];simp only[aM.aC];omega
  exact⟨j+1,hlt,by omega,⟨by rw[hfin,wN (by omega)];(try simp[ub,cj,ck]),rfl,rfl⟩⟩
theorem Ss(β:Bool)(l:List aL)(k:Int)(hk:0≤k)(hb:k+ar aL.aC l≤9223372036854775000)(hl:l.length≤1073741824)(h:AH):
    T Tryz.prog Γ Fn.Wl [.vs β 2 false ((dF aL.cA aL.aC l k).map (aL.c β)),.int .i64 k] h fun v h'=>v=.int .i64 (k+ar aL.aC l)∧h'=h:=by
  obtain⟨M,hM⟩:∃M,M=dF aL.cA aL.aC l k:=⟨_,rfl⟩
  have hlen:M.length=l.length:=by rw[hM];exact ca
  rw[←hM]
  have L0:=bH β 2 false M (aL.c β)
  rw[hlen]at L0
  refine RM (au aF mixed [] _ _ _ ?_)
  unfold Jd
  simp only[cq,ah,Nat.reduceAdd,Nat.reduceBEq,Nat.reduceLeDiff,vQ]
  refine bD aF mixed [] (fun j:Nat=>j≤l.length) (fun j=>l.length-j)
    (fun j=>ug (.vs β 2 false (M.map (aL.c β))) (.int .i64 (k+ar aL.aC (l.take j))) (.int .i64 j) [] h) 0 (by omega) ⟨by simp[ug,cj,ck,ar],rfl,rfl⟩ ?_
  intro j hj
  simp only[cq,ah,Nat.reduceAdd,Nat.reduceBEq,Nat.reduceLeDiff,vQ,ug,L0]
  refine ba (fun hlt=>?_) (fun hge=>?_)
  rotate_left
  · have hge:j=l.length:=by simp at hge;omega
    subst hge
    simp only[cq,ah,Nat.reduceAdd,Nat.reduceBEq,Nat.reduceLeDiff,vQ]
    rw[List.take_length]
    first|exact⟨rfl,rfl⟩|exact rfl
  have hlt:j<l.length:=by simpa using hlt
  have htk:=cg aL.aC hlt
  have hle:=dy (c:=aL.aC) aL.aP hlt
  have hnn:=aT (c:=aL.aC) aL.aP (l.take j)
  have hg:=gn aL.cA aL.aC hlt k
  have hltM:j<M.length:=by omega
  have i0:=bW (β:=β) (sz:=2) (ex:=false) (ce:=(aL.c β)) hltM
  rw[←hM,List.getElem?_eq_getElem hltM]at hg
  injection hg with hg
  rw[hg]at i0
  obtain⟨x,hx⟩:∃x,x=l[j]:=⟨_,rfl⟩
  try rw[←hx]at i0
  try rw[←hx]at htk hle
  obtain⟨kj,hkj⟩:∃kj,kj=k+ar aL.aC (l.take j):=⟨_,rfl⟩
  rw[←hkj]at i0
  rw[←hkj]
  have hk0:0≤kj:=by omega
  have hkb:kj+aL.aC x≤9223372036854775000:=by omega
  simp only[aL.aC]at hkb
  have w0:IntKind.i64.wrap (kj+1)=kj+1:=(aI (by omega) (by omega)).trans (by omega)
  have w1:IntKind.i64.wrap (kj+1+1)=kj+2:=(aI (by omega) (by omega)).trans (by omega)
  simp only[cq,ah,Nat.reduceAdd,Nat.reduceBEq,Nat.reduceLeDiff,vQ,i0,aL.c,aL.cA,bne_self_eq_false,beq_self_eq_true,w0,w1]
  have hfin:k+ar aL.aC (l.take (j+1))=kj+2:=by rw[htk];simp only[aL.aC];omega
  exact⟨j+1,hlt,by omega,⟨by rw[hfin,wN (by omega)];(try simp[ug,cj,ck]),rfl,rfl⟩⟩
set_option maxRecDepth 20000 in
theorem QN(β:Bool)(l:List aj)(k:Int)(hk:0≤k)(hb:k+ar aj.aC l≤9223372036854775000)(hl:l.length≤1073741824)(ho:∀x∈l,x.ok 1073741824)(h:AH):
    T Tryz.prog Γ Fn.Xy [.vs β 13 false ((dF aj.cA aj.aC l k).map (aj.c β)),.int .i64 k] h fun v h'=>v=.int .i64 (k+ar aj.aC l)∧h'=h:=by
  obtain⟨M,hM⟩:∃M,M=dF aj.cA aj.aC l k:=⟨_,rfl⟩
  have hlen:M.length=l.length:=by rw[hM];exact ca
  rw[←hM]
  have L0:=bH β 13 false M (aj.c β)
  rw[hlen]at L0
  refine TU (au aF mixed [] _ _ _ ?_)
  unfold GP
  simp only[cq,ah,Nat.reduceAdd,Nat.reduceBEq,Nat.reduceLeDiff,qG]
  refine bD aF mixed [] (fun j:Nat=>j≤l.length) (fun j=>l.length-j)
    (fun j=>uS (.vs β 13 false (M.map (aj.c β))) (.int .i64 (k+ar aj.aC (l.take j))) (.int .i64 j) [] h) 0 (by omega) ⟨by simp[uS,cj,ck,ar],rfl,rfl⟩ ?_
  intro j hj
  simp only[cq,ah,Nat.reduceAdd,Nat.reduceBEq,Nat.reduceLeDiff,qG,uS,L0]
  refine ba (fun hlt=>?_) (fun hge=>?_)
  rotate_left
  · have hge:j=l.length:=by simp at hge;omega
    subst hge
    simp only[cq,ah,Nat.reduceAdd,Nat.reduceBEq,Nat.reduceLeDiff,qG]
    rw[List.take_length]
    first|exact⟨rfl,rfl⟩|exact rfl
  have hlt:j<l.length:=by simpa using hlt
  have htk:=cg aj.aC hlt
  have hle:=dy (c:=aj.aC) aj.aP hlt
  have hnn:=aT (c:=aj.aC) aj.aP (l.take j)
  have hg:=gn aj.cA aj.aC hlt k
  have hltM:j<M.length:=by omega
  have i0:=bW (β:=β) (sz:=13) (ex:=false) (ce:=(aj.c β)) hltM
  rw[←hM,List.getElem?_eq_getElem hltM]at hg
  injection hg with hg
  rw[hg]at i0
  obtain⟨x,hx⟩:∃x,x=l[j]:=⟨_,rfl⟩
  try rw[←hx]at i0
  try rw[←hx]at htk hle
  obtain⟨kj,hkj⟩:∃kj,kj=k+ar aj.aC (l.take j):=⟨_,rfl⟩
  rw[←hkj]at i0
  rw[←hkj]
  have hk0:0≤kj:=by omega
  have hkb:kj+aj.aC x≤9223372036854775000:=by omega
  have z0:=aT (c:=aL.aC) aL.aP x.message.args
  simp only[aj.aC]at hkb
  have hox:=ho _ (List.getElem_mem hlt);rw[←hx]at hox
  have w0:IntKind.i64.wrap (kj+1)=kj+1:=(aI (by omega) (by omega)).trans (by omega)
  have w1:IntKind.i64.wrap (kj+1+1)=kj+2:=(aI (by omega) (by omega)).trans (by omega)
  have w2:IntKind.i64.wrap (kj+2+1)=kj+3:=(aI (by omega) (by omega)).trans (by omega)
  have w3:IntKind.i64.wrap (kj+3+1)=kj+4:=(aI (by omega) (by omega)).trans (by omega)
  have w4:IntKind.i64.wrap (kj+4+1)=kj+5:=(aI (by omega) (by omega)).trans (by omega)
  have w5:IntKind.i64.wrap (kj+5+1)=kj+6:=(aI (by omega) (by omega)).trans (by omega)
  have y6:decide (kj+6+ar aL.aC x.message.args<0)=false:=by simp;omega
  have w7:IntKind.i64.wrap (kj+6+ar aL.aC x.message.args+1)=kj+7+ar aL.aC x.message.args:=(aI (by omega) (by omega)).trans (by omega)
  have w8:IntKind.i64.wrap (kj+7+ar aL.aC x.message.args+1)=kj+8+ar aL.aC x.message.args:=(aI (by omega) (by omega)).trans (by omega)
  have w9:IntKind.i64.wrap (kj+8+ar aL.aC x.message.args+1)=kj+9+ar aL.aC x.message.args:=(aI (by omega) (by omega)).trans (by omega)
  have w10:IntKind.i64.wrap (kj+9+ar aL.aC x.message.args+1)=kj+10+ar aL.aC x.message.args:=(aI (by omega) (by omega)).trans (by omega)
  have w11:IntKind.i64.wrap (kj+10+ar aL.aC x.message.args+1)=kj+11+ar aL.aC x.message.args:=(aI (by omega) (by omega)).trans (by omega)
  have w12:IntKind.i64.wrap (kj+11+ar aL.aC x.message.args+1)=kj+12+ar aL.aC x.message.args:=(aI (by omega) (by omega)).trans (by omega)
  simp only[cq,ah,Nat.reduceAdd,Nat.reduceBEq,Nat.reduceLeDiff,qG,pK,i0,aj.c,aj.cA,bne_self_eq_false,beq_self_eq_true,w0,w1,w2,w3,w4,w5,y6,w7,w8,w9,w10,w11,w12]
  refine aq.val (by simp only[EO]) (yO (kj+5) (by omega) (by omega) _) ?_
  simp only[cq,ah,Nat.reduceAdd,Nat.reduceBEq,Nat.reduceLeDiff,qG,pK,i0,aj.c,aj.cA,bne_self_eq_false,beq_self_eq_true,w0,w1,w2,w3,w4,w5,y6,w7,w8,w9,w10,w11,w12]
  refine aq.val (by simp only[EO]) (Ss β x.message.args (kj+6) (by omega) (by omega) (hox.2) _) ?_
  simp only[cq,ah,Nat.reduceAdd,Nat.reduceBEq,Nat.reduceLeDiff,qG,pK,i0,aj.c,aj.cA,bne_self_eq_false,beq_self_eq_true,w0,w1,w2,w3,w4,w5,y6,w7,w8,w9,w10,w11,w12]
  have hfin:k+ar aj.aC (l.take (j+1))=kj+12+ar aL.aC x.message.args:=by rw[htk];simp only[aj.aC];omega
  exact⟨j+1,hlt,by omega,⟨by rw[hfin,wN (by omega)];(try simp[uS,cj,ck]),rfl,rfl⟩⟩
theorem Hm(x:aS)(k:Int)(hk:0≤k)(hb:k+x.cW≤9223372036854775000)(hx:x.ok 1073741824)(H:AH){aa:List AV}{fp:List Nat}(o:aV H aa x.cd fp)(nd:fp.Nodup):
    T Tryz.prog Γ Fn.Vk [.agg aa,.int .i64 k] H fun v h'=>v=.int .i64 (k+x.cW)∧(h'.length=H.length∧(∀c,c∉fp→h'[c]? = H[c]?)∧aV h' aa (x.xE k).cd fp):=by
  have z0:=aT (c:=an.aC) an.aP x.entities
  have z1:=aT (c:=aA.aC) aA.aP x.loop
  have z2:=aT (c:=aM.aC) aM.aP x.links
  have z3:=aT (c:=aj.aC) aj.aP x.out
  simp only[aS.cW]at hb
  simp only[aS.cd,cT,cO,dU,dT,dM]at o
  obtain⟨_,_,_,_,rfl,e0z,⟨rfl,rfl⟩,⟨a1,_,g1,_,rfl,e1z,u1,⟨a2,_,g2,_,rfl,e2z,u2,⟨a3,_,g3,_,rfl,e3z,u3,⟨a4,_,g4,_,rfl,e4z,u4,⟨rfl,e5z⟩⟩⟩⟩⟩⟩:=o
  have hfxe:fp=(g1++(g2++(g3++(g4++[])))):=by rw[e0z,e1z,e2z,e3z,e4z,e5z];simp
  have ow:aV H [a1,a2,a3,a4] [(.sl 12 (x.entities.map an.cd)),(.sl 7 (x.loop.map aA.cd)),(.sl 7 (x.links.map aM.cd)),(.sl 13 (x.out.map aj.cd))] fp:=by rw[hfxe];exact(.o u1 (.o u2 (.o u3 (.o u4 .nil))))
  obtain⟨c1a,c1b,c1c,c1d⟩:=u1.cell
  obtain⟨c2a,c2b,c2c,c2d⟩:=u2.cell
  obtain⟨c3a,c3b,c3c,c3d⟩:=u3.cell
  obtain⟨c4a,c4b,c4c,c4d⟩:=u4.cell
  clear e0z e1z e2z e3z e4z e5z hfxe
  have fr0:∀c,c∉fp→H[c]? = H[c]?:=fun _ _=>rfl
  have len0:H.length=H.length:=rfl
  refine SS (au aF mixed [] _ _ _ ?_)
  unfold Fq
  simp only[cq,ah,Nat.reduceAdd,Nat.reduceBEq,Nat.reduceLeDiff,tM,c1a,c1b,c1c,c2a,c2b,c2c,c3a,c3b,c3c,c4a,c4b,c4c,bo]
  obtain⟨gi0,oi0,ni0,si0,bk0⟩:=aV.pick (A:=[]) (D:=[]) rfl ow nd
  refine aq.ref (by simp only[EO,c1d]) (QO x.entities (k) (by omega) (by omega) (hx.1) (hx.2.1) _ oi0 ni0) ?_
  rintro _ h0 ⟨rfl,hlen0,hfr0,un0⟩
  replace ow:=bk0 h0 _ hfr0 un0
  have fr1:∀c,c∉fp→h0[c]? = H[c]?:=fun c hc=>(hfr0 c (fun h=>hc (si0 c h))).trans (fr0 c hc)
  have len1:h0.length=H.length:=hlen0.trans len0
  simp only[cq,ah,Nat.reduceAdd,Nat.reduceBEq,Nat.reduceLeDiff,tM,c1a,c1b,c1c,c2a,c2b,c2c,c3a,c3b,c3c,c4a,c4b,c4c,bo]
  obtain⟨gi1,oi1,ni1,si1,bk1⟩:=aV.pick (A:=[a1]) (D:=[_]) rfl ow nd
  refine aq.ref (by simp only[EO,c2d]) (FX x.loop (k+ar an.aC x.entities) (by omega) (by omega) (hx.2.2.1) (hx.2.2.2.1) _ oi1 ni1) ?_
  rintro _ h1 ⟨rfl,hlen1,hfr1,un1⟩
  replace ow:=bk1 h1 _ hfr1 un1
  have fr2:∀c,c∉fp→h1[c]? = H[c]?:=fun c hc=>(hfr1 c (fun h=>hc (si1 c h))).trans (fr1 c hc)
  have len2:h1.length=H.length:=hlen1.trans len1
  simp only[cq,ah,Nat.reduceAdd,Nat.reduceBEq,Nat.reduceLeDiff,tM,c1a,c1b,c1c,c2a,c2b,c2c,c3a,c3b,c3c,c4a,c4b,c4c,bo]
  obtain⟨gi2,oi2,ni2,si2,bk2⟩:=aV.pick (A:=[a1,a2]) (D:=[_,_]) rfl ow nd
  refine aq.ref (by simp only[EO,c3d]) (N1 x.links (k+ar an.aC x.entities+ar aA.aC x.loop) (by omega) (by omega) (hx.2.2.2.2.1) (hx.2.2.2.2.2.1) _ oi2 ni2) ?_
  rintro _ h2 ⟨rfl,hlen2,hfr2,un2⟩
  replace ow:=bk2 h2 _ hfr2 un2
  have fr3:∀c,c∉fp→h2[c]? = H[c]?:=fun c hc=>(hfr2 c (fun h=>hc (si2 c h))).trans (fr2 c hc)
  have len3:h2.length=H.length:=hlen2.trans len2
  simp only[cq,ah,Nat.reduceAdd,Nat.reduceBEq,Nat.reduceLeDiff,tM,c1a,c1b,c1c,c2a,c2b,c2c,c3a,c3b,c3c,c4a,c4b,c4c,bo]
  obtain⟨gi3,oi3,ni3,si3,bk3⟩:=aV.pick (A:=[a1,a2,a3]) (D:=[_,_,_]) rfl ow nd
  refine aq.ref (by simp only[EO,c4d]) (MR x.out (k+ar an.aC x.entities+ar aA.aC x.loop+ar aM.aC x.links) (by omega) (by omega) (hx.2.2.2.2.2.2.1) (hx.2.2.2.2.2.2.2) _ oi3 ni3) ?_
  rintro _ h3 ⟨rfl,hlen3,hfr3,un3⟩
  replace ow:=bk3 h3 _ hfr3 un3
  have fr4:∀c,c∉fp→h3[c]? = H[c]?:=fun c hc=>(hfr3 c (fun h=>hc (si3 c h))).trans (fr3 c hc)
  have len4:h3.length=H.length:=hlen3.trans len3
  simp only[cq,ah,Nat.reduceAdd,Nat.reduceBEq,Nat.reduceLeDiff,tM,c1a,c1b,c1c,c2a,c2b,c2c,c3a,c3b,c3c,c4a,c4b,c4c,bo]
  refine⟨rfl,by simp only[aS.cW,Int.zero_add,Int.add_assoc],?_⟩
  refine⟨len4,fr4,?_⟩
  obtain⟨F0,R0,E0,O0,⟨F1,R1,E1,O1,⟨F2,R2,E2,O2,⟨F3,R3,E3,O3,hz⟩⟩⟩⟩:=ow
  have hz:R3=[]:=hz
  rw[E0,E1,E2,E3,hz];exact(.i (.o O0 (.o O1 (.o O2 (.o O3 .nil)))))
theorem GI(β:Bool)(x:aS)(k:Int)(hk:0≤k)(hb:k+x.cW≤9223372036854775000)(hx:x.ok 1073741824)(h:AH):
    T Tryz.prog Γ Fn.UJ [.agg ((x.xE k).c β),.int .i64 k] h fun v h'=>v=.int .i64 (k+x.cW)∧h'=h:=by
  have z0:=aT (c:=an.aC) an.aP x.entities
  have z1:=aT (c:=aA.aC) aA.aP x.loop
  have z2:=aT (c:=aM.aC) aM.aP x.links
  have z3:=aT (c:=aj.aC) aj.aP x.out
  simp only[aS.cW]at hb
  have y0:decide (k+ar an.aC x.entities<0)=false:=by simp;omega
  have y1:decide (k+ar an.aC x.entities+ar aA.aC x.loop<0)=false:=by simp;omega
  have y2:decide (k+ar an.aC x.entities+ar aA.aC x.loop+ar aM.aC x.links<0)=false:=by simp;omega
  have y3:decide (k+ar an.aC x.entities+ar aA.aC x.loop+ar aM.aC x.links+ar aj.aC x.out<0)=false:=by simp;omega
  refine Pz (au aF mixed [] _ _ _ ?_)
  unfold H8
  simp only[cq,ah,Nat.reduceAdd,Nat.reduceBEq,Nat.reduceLeDiff,tN,aS.c,aS.xE,bo,y0,y1,y2,y3]
  refine aq.val (by simp only[EO]) (MD β x.entities (k) (by omega) (by omega) (hx.1) (hx.2.1) _) ?_
  simp only[cq,ah,Nat.reduceAdd,Nat.reduceBEq,Nat.reduceLeDiff,tN,aS.c,aS.xE,bo,y0,y1,y2,y3]
  refine aq.val (by simp only[EO]) (Fp β x.loop (k+ar an.aC x.entities) (by omega) (by omega) (hx.2.2.1) (hx.2.2.2.1) _) ?_
  simp only[cq,ah,Nat.reduceAdd,Nat.reduceBEq,Nat.reduceLeDiff,tN,aS.c,aS.xE,bo,y0,y1,y2,y3]
  refine aq.val (by simp only[EO]) (OD β x.links (k+ar an.aC x.entities+ar aA.aC x.loop) (by omega) (by omega) (hx.2.2.2.2.1) (hx.2.2.2.2.2.1) _) ?_
  simp only[cq,ah,Nat.reduceAdd,Nat.reduceBEq,Nat.reduceLeDiff,tN,aS.c,aS.xE,bo,y0,y1,y2,y3]
  refine aq.val (by simp only[EO]) (QN β x.out (k+ar an.aC x.entities+ar aA.aC x.loop+ar aM.aC x.links) (by omega) (by omega) (hx.2.2.2.2.2.2.1) (hx.2.2.2.2.2.2.2) _) ?_
  simp only[cq,ah,Nat.reduceAdd,Nat.reduceBEq,Nat.reduceLeDiff,tN,aS.c,aS.xE,bo,y0,y1,y2,y3]
  refine⟨rfl,?_⟩;simp only[aS.cW,Int.zero_add,Int.add_assoc]
end Go.Proofs.YtdlbaonelfcahaaGreatDoor
