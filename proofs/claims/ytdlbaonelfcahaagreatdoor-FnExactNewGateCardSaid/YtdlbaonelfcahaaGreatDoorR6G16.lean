import Derived.Test.YtdlbaonelfcahaaGreatDoorR6G15
import Derived.Test.YtdlbaonelfcahaaGreatDoorCodeNewGate
import Derived.Test.YtdlbaonelfcahaaGreatDoorAmG10
import Derived.Shelf.Strings.Replace
import Derived.Shelf.Strings.Cut
import Derived.Shelf.Strings.BuilderK
import Derived.Shelf.Strings.OnBuilder
import Derived.Shelf.Strings.Split
import Derived.Test.YtdlbaonelfcahaaGreatDoorAmG11
set_option linter.unusedVariables false
set_option linter.unusedSimpArgs false
namespace Go.Proofs.YtdlbaonelfcahaaGreatDoor
open Go.AM
variable {Γ:bG}
theorem T.yes{f:FuncId}{args:List AV}{h:AH}{b:Bool}(t:T Tryz.prog Γ f args h fun v h'=>v=.bool b∧∃N,h'=h++N):T Tryz.prog Γ f args h fun v h'=>v=.bool b∧h'=h:=by
  have:=T.frozen (rs:=[.c (.b b)]) (t.fresh (by
    rintro v h' ⟨rfl,N,rfl⟩
    exact⟨[.bool b],N,[],rfl,rfl,⟨[],[],rfl,.b _,rfl⟩,List.nodup_nil,by simp⟩))
  exact this.mono fun v h' ⟨h1,h2⟩=>⟨by simpa[jv,RD.av,CD.av]using h1,h2⟩
theorem PY(β:Bool)(x y:aJ)(ne:¬x.name=y.name)(H:AH){p:AV}(hp:Ptr H p (y.c β)):T Tryz.prog Γ Fn.Ko [.agg (x.c β),p] H fun v h'=>v=.bool false∧h'=H:=by
  have hc:∀(e:List AV) (l:List (List AV)),(St.mk e l H).cells (xG p 0) 1=some [.str y.name]:=fun e l=>hp.rd e l 0 0 (by simp[aJ.c])
  refine T4 (au aF mixed [] _ _ _ ?_)
  unfold Ik
  simp only[EZ,ah,Nat.reduceAdd,Nat.reduceBEq,F5,EB,bo,aJ.c,hp.fld,hp.nil,bB,hc,decide_eq_false ne]
  first|exact⟨rfl,rfl⟩|exact rfl|trivial
theorem vt(β:Bool)(l:List aJ)(hl:l.length≤1000)(y:aJ)(ne:∀x∈l,¬x.name=y.name)(H:AH){p:AV}(hp:Ptr H p (y.c β))(ho:bX p=true):T Tryz.prog Γ Fn.Xz [.vs β 2 false (l.map (aJ.c β)),.fn Fn.Ko [] [p]] H fun v h'=>v=.bool false∧h'=H:=by
  have hidx:T Tryz.prog Γ Fn.Wg [.vs β 2 false (l.map (aJ.c β)),.fn Fn.Ko [] [p]] H fun v h'=>v=.int .i64 (-1)∧h'=H:=by
    rw[←xB l]
    exact fG (P:=Tryz.prog) (Γ:=Γ) aF mixed (sz:=2) (agg:=true) (fun hw=>Rs hw) (β:=β) (l:=l) (c:=aJ.c β) (by omega) (fun x=>⟨⟨rfl,.inl rfl⟩,rfl⟩) (g:=Fn.Ko) (first:=[]) (caps:=[p]) (by simp[ho]) (fun _=>false) (h:=H) (fun x hx=>PY β x y (ne x hx) H hp)
  have ot:bX (AV.vs β 2 false (l.map (aJ.c β)))=true:=rfl
  have of:bX (AV.fn Fn.Ko [] [p])=true:=by simp[bX,bk,hp.n1]
  refine S9 (au aF mixed [] _ _ _ ?_)
  unfold Fu
  simp only[EZ,ah,Nat.reduceAdd,Nat.reduceBEq,B3]
  refine aq.val (by simp only[EO,ot,of]) hidx ?_
  simp only[EZ,ah,Nat.reduceAdd,Nat.reduceBEq,B3]
  first|exact⟨rfl,rfl⟩|exact rfl|trivial
set_option maxHeartbeats 8000000 in
theorem Rj(β:Bool)(s:aB)(hs:ye s=true)(ok:s.ok 1000000)(h:AH):T Tryz.prog Γ Fn.U2 [.agg (s.c β)] h fun v h'=>v=.bool true∧h'=h:=by
  simp only[ye,Bool.and_eq_true,List.all_eq_true,decide_eq_true_eq]at hs
  obtain⟨m1,m2,m3,m4⟩:=hs
  have L0:=bH β 2 false s.methods (aJ.c β)
  have i0:=fun k hk=>bW (β:=β) (sz:=2) (ex:=false) (l:=s.methods) (ce:=aJ.c β) (k:=k) hk
  have hn:=fun h=>CP (Γ:=Γ) s.name (by have:=ok.1;omega) m3 h
  have hgt:¬((s.methods.length:Nat):Int)>4:=by omega
  refine T.yes ?_
  refine Oh (au aF mixed [4] _ _ _ ?_)
  unfold Hf
  simp only[EZ,ah,Nat.reduceAdd,Nat.reduceBEq,nC,EB,aB.c]
  refine aq.val (by simp only[EO]) (hn _) ?_
  simp only[EZ,ah,Nat.reduceAdd,Nat.reduceBEq,nC,EB,L0,decide_eq_false hgt]
  have tc:∀k,k≤s.methods.length→∀(S:St),kE (.sl 2) S (.vs β 2 false (s.methods.map (aJ.c β))) (.int .i64 (k:Int))=.val (.vs β 2 false ((s.methods.take k).map (aJ.c β))) S:=fun k hk S=>by
    have e:jd (.int .i64 (k:Int))=some k:=by simp[jd,xA]
    simp only[kE,e,eL]
    simp[hk,AR.eI,List.map_take]
  refine bD aF mixed [4] (fun x:Nat×AH=>x.1≤s.methods.length∧∃N,x.2=h++N) (fun x=>s.methods.length-x.1)
    (fun x=>qq (.lp ([]:List (List AV)).length 0) (.vs β 2 false (s.methods.map (aJ.c β))) (.int .i64 s.methods.length) (.int .i64 x.1) (([]:List (List AV))++[s.c β]) x.2) (0,h) ⟨by omega,[],by simp⟩ ⟨by simp[qq,cj,ck,aB.c],rfl,rfl⟩ ?_
  rintro⟨k,H⟩ ⟨hk,N,rfl⟩
  simp only at hk
  simp only[EZ,ah,Nat.reduceAdd,Nat.reduceBEq,nC,qq,EB,aB.c]
  refine ba (fun hlt=>?_) (fun hge=>?_)
  rotate_left
  · simp only[EZ,ah,Nat.reduceAdd,Nat.reduceBEq,nC,EB]
    first|exact⟨rfl,rfl,_,rfl⟩|exact⟨rfl,_,rfl⟩|exact⟨_,rfl⟩
  have hlt:k<s.methods.length:=by simpa using hlt
  have i1:=i0 k hlt
  have al:=fun(s:St)=>oU s _ (show List.all [AV.str ⟨#[]⟩,.nils] bk=true from rfl)
  have sto:∀(e:List AV) (L:List (List AV)),(St.mk e L ((h++N)++[some (0,[AV.str ⟨#[]⟩,.nils])])).store (.gp (h++N).length 0 0) (s.methods[k].c β)=some ⟨e,L,(h++N)++[some (0,s.methods[k].c β)]⟩:=fun e L=>by
    rw[kT (by simp[aJ.c]) rfl];rfl
  have hlast:bA ((h++N)++[some (0,s.methods[k].c β)]) (h++N).length=some (0,s.methods[k].c β):=bC _ _
  have cl:=fun(e:List AV) (L:List (List AV)) (off n:Nat)=>xO (e:=e) (l:=L) (h:=h++N) (cs:=s.methods[k].c β) (off:=off) (n:=n)
  have hp:Ptr ((h++N)++[some (0,s.methods[k].c β)]) (.gp (h++N).length 0 0) (s.methods[k].c β):=Ptr.V3 hlast
  have hm:=fun h=>Tu (Γ:=Γ) β s.methods[k] (m1 _ (List.getElem_mem hlt)) (ok.2.2 _ (List.getElem_mem hlt)) h
  have tk:=tc k (by omega)
  have hsc:=vt (Γ:=Γ) β (s.methods.take k) (by rw[List.length_take];omega) s.methods[k] (fun x hx=>by
    obtain⟨i,hi,rfl⟩:=List.mem_take_iff_getElem.1 hx
    exact zJ m2 hlt (by omega)) ((h++N)++[some (0,s.methods[k].c β)]) hp rfl
  simp only[aJ.c]at sto cl hm hsc
  simp only[EZ,ah,Nat.reduceAdd,Nat.reduceBEq,nC,EB,i1,aJ.c,al,fU,sto,cl]
  refine aq.val (by simp only[EO]) (hm _) ?_
  simp only[EZ,ah,Nat.reduceAdd,Nat.reduceBEq,nC,EB,tk]
  refine aq.val (by simp only[EO,bX,bk,cB,List.all_cons,List.all_nil,Bool.and_self]) hsc ?_
  simp only[EZ,ah,Nat.reduceAdd,Nat.reduceBEq,nC,EB]
  exact⟨(k+1,(h++N)++[some (0,[AV.str s.methods[k].name,AV.vs β 6 false (s.methods[k].code.map (aN.c β))])]),⟨hlt,N++[some (0,[AV.str s.methods[k].name,AV.vs β 6 false (s.methods[k].code.map (aN.c β))])],by simp⟩,by simp only;omega,⟨by rw[wN (by omega)];simp[qq,cj,ck],by simp[aB.c,qq,cj],rfl⟩⟩
theorem PG(β:Bool)(x:aB)(nm:ByteArray)(ne:¬x.name=nm)(H:AH){p:AV}(hp:Ptr H p [.str nm]):T Tryz.prog Γ Fn.JJ [.agg (x.c β),p] H fun v h'=>v=.bool false∧h'=H:=by
  have hc:∀(e:List AV) (l:List (List AV)),(St.mk e l H).cells p 1=some [.str nm]:=fun e l=>hp.rd0 e l 0 (by simp)
  refine HX (au aF mixed [] _ _ _ ?_)
  unfold AO
  simp only[EZ,ah,Nat.reduceAdd,Nat.reduceBEq,AZ,EB,bo,aB.c,bB,hc,decide_eq_false ne]
  first|exact⟨rfl,rfl⟩|exact rfl|trivial
theorem SB(β:Bool)(l:List aB)(hl:l.length≤1000)(nm:ByteArray)(ne:∀x∈l,¬x.name=nm)(h:AH):T Tryz.prog Γ Fn.Kx [.vs β 2 false (l.map (aB.c β)),.str nm] h fun v h'=>v=.int .i64 (-1)∧∃N,h'=h++N:=by
  have ot:bX (AV.vs β 2 false (l.map (aB.c β)))=true:=rfl
  have hp:Ptr (h++[some (0,[.str nm])]) (.gp h.length 0 0) [.str nm]:=Ptr.V3 (bC _ _)
  have hidx:T Tryz.prog Γ Fn.Vf [.vs β 2 false (l.map (aB.c β)),.fn Fn.JJ [] [.gp h.length 0 0]] (h++[some (0,[.str nm])]) fun v h'=>v=.int .i64 (-1)∧h'=h++[some (0,[.str nm])]:=by
    rw[←xB l]
    exact fG (P:=Tryz.prog) (Γ:=Γ) aF mixed (sz:=2) (agg:=true) (fun hw=>HV hw) (β:=β) (l:=l) (c:=aB.c β) (by omega) (fun x=>⟨⟨rfl,.inl rfl⟩,rfl⟩) (g:=Fn.JJ) (first:=[]) (caps:=[.gp h.length 0 0]) rfl (fun _=>false) (h:=h++[some (0,[.str nm])]) (fun x hx=>PG β x nm (ne x hx) _ hp)
  refine Iv (au aF mixed [3] _ _ _ ?_)
  unfold BG
  simp only[EZ,ah,Nat.reduceAdd,Nat.reduceBEq,wo,EB,Bn _ _ (show List.all [AV.str nm] bk=true from rfl),fU]
  refine aq.val (by simp only[EO,ot,bX,bk,cB,List.all_cons,List.all_nil,Bool.and_self]) hidx ?_
  simp only[EZ,ah,Nat.reduceAdd,Nat.reduceBEq,wo,EB]
  first|exact⟨rfl,rfl,_,rfl⟩|exact⟨rfl,_,rfl⟩|exact⟨_,rfl⟩
theorem T.RW{f:FuncId}{args:List AV}{h:AH}{n:Int}(t:T Tryz.prog Γ f args h fun v h'=>v=.int .i64 n∧∃N,h'=h++N):T Tryz.prog Γ f args h fun v h'=>v=.int .i64 n∧h'=h:=by
  have:=T.frozen (rs:=[.c (.i .i64 n)]) (t.fresh (by
    rintro v h' ⟨rfl,N,rfl⟩
    exact⟨[.int .i64 n],N,[],rfl,rfl,⟨[],[],rfl,.i _ _,rfl⟩,List.nodup_nil,by simp⟩))
  exact this.mono fun v h' ⟨h1,h2⟩=>⟨by simpa[jv,RD.av,CD.av]using h1,h2⟩
set_option maxHeartbeats 8000000 in
theorem He(β:Bool)(l:List aB)(hb:As l=true)(ok:∀s∈l,s.ok 1000000)(h:AH):T Tryz.prog Γ Fn.V2 [.vs β 2 false (l.map (aB.c β))] h fun v h'=>v=.bool true∧h'=h:=by
  obtain⟨b1,b2,b3⟩:=yo hb
  have L0:=bH β 2 false l (aB.c β)
  have i0:=fun k hk=>bW (β:=β) (sz:=2) (ex:=false) (l:=l) (ce:=aB.c β) (k:=k) hk
  have hgt:¬((l.length:Nat):Int)>6:=by omega
  have tc:∀k,k≤l.length→∀(S:St),kE (.sl 2) S (.vs β 2 false (l.map (aB.c β))) (.int .i64 (k:Int))=.val (.vs β 2 false ((l.take k).map (aB.c β))) S:=fun k hk S=>by
    have e:jd (.int .i64 (k:Int))=some k:=by simp[jd,xA]
    simp only[kE,e,eL]
    simp[hk,AR.eI,List.map_take]
  have ff:=fun k (hk:k<l.length) h=>T.RW (SB (Γ:=Γ) β (l.take k) (by rw[List.length_take];omega) l[k].name (fun x hx=>by
    obtain⟨i,hi,rfl⟩:=List.mem_take_iff_getElem.1 hx
    exact b3 k i hk (by omega)) h)
  have ot:∀l:List aB,bX (AV.vs β 2 false (l.map (aB.c β)))=true:=fun l=>rfl
  generalize e0:AV.vs β 2 false (l.map (aB.c β))=a0 at *
  refine Ms (au aF mixed [] _ _ _ ?_)
  unfold Fm
  simp only[EZ,ah,Nat.reduceAdd,Nat.reduceBEq,qv,jb,EB,L0,decide_eq_false hgt]
  refine bD aF mixed [] (fun x:Nat×List (List AV)=>x.1≤l.length) (fun x=>l.length-x.1)
    (fun x=>vm a0 a0 (.int .i64 l.length) (.int .i64 x.1) x.2 h) (0,([]:List (List AV))) (by omega) ⟨by simp[vm,cj,ck],rfl,rfl⟩ ?_
  rintro⟨k,L⟩ hk
  simp only at hk
  simp only[EZ,ah,Nat.reduceAdd,Nat.reduceBEq,qv,jb,vm,EB]
  refine ba (fun hlt=>?_) (fun hge=>?_)
  rotate_left
  · simp only[EZ,ah,Nat.reduceAdd,Nat.reduceBEq,qv,jb,EB]
    first|exact⟨rfl,rfl⟩|exact rfl|trivial
  have hlt:k<l.length:=by simpa using hlt
  have i1:=i0 k hlt
  have hs:=fun h=>Rj (Γ:=Γ) β l[k] (b1 _ (List.getElem_mem hlt)) (ok _ (List.getElem_mem hlt)) h
  have tk:=tc k (by omega)
  simp only[aB.c]at hs
  simp only[EZ,ah,Nat.reduceAdd,Nat.reduceBEq,qv,jb,EB,i1,aB.c]
  refine aq.val (by simp only[EO]) (hs _) ?_
  simp only[EZ,ah,Nat.reduceAdd,Nat.reduceBEq,qv,jb,EB,tk]
  refine aq.val (by simp only[EO,ot]) (ff k hlt _) ?_
  simp only[EZ,ah,Nat.reduceAdd,Nat.reduceBEq,qv,jb,EB,show decide ((0:Int)≤-1)=false from rfl]
  exact⟨(k+1,_),hlt,by simp only;omega,⟨by rw[wN (by omega)];simp[vm,cj,ck],rfl,rfl⟩⟩
end Go.Proofs.YtdlbaonelfcahaaGreatDoor
namespace Go.Proofs.YtdlbaonelfcahaaGreatDoor
open Go.AM Go.Shelf
def yn:Ren:=⟨fun|171=>206|243=>215|246=>217|283=>218|284=>219|285=>220|286=>221|129=>223|317=>222|318=>224|319=>225|320=>226|337=>227|338=>228|n=>n,fun|3=>3|9=>9|2=>2|4=>4|171=>284|0=>0|53=>261|37=>175|5=>5|173=>287|212=>290|51=>270|20=>20|213=>291|46=>260|232=>294|233=>295|n=>n,fun|17=>6|18=>7|19=>8|n=>n⟩
theorem KL:LaysM.n171 Tryz.prog yn:={
  mixed:=by kernel_rfl
  f129:=Tryz.func223.trans (congrArg some (by kernel_rfl))
  f171:=Tryz.func206.trans (congrArg some (by kernel_rfl))
  f243:=Tryz.func215.trans (congrArg some (by kernel_rfl))
  f246:=Tryz.func217.trans (congrArg some (by kernel_rfl))
  f283:=Tryz.func218.trans (congrArg some (by kernel_rfl))
  f284:=Tryz.func219.trans (congrArg some (by kernel_rfl))
  f285:=Tryz.func220.trans (congrArg some (by kernel_rfl))
  f286:=Tryz.func221.trans (congrArg some (by kernel_rfl))
  f317:=Tryz.func222.trans (congrArg some (by kernel_rfl))
  f318:=Tryz.func224.trans (congrArg some (by kernel_rfl))
  f319:=Tryz.func225.trans (congrArg some (by kernel_rfl))
  f320:=Tryz.func226.trans (congrArg some (by kernel_rfl))
  f337:=Tryz.func227.trans (congrArg some (by kernel_rfl))
  f338:=Tryz.func228.trans (congrArg some (by kernel_rfl))
  t0:=Tryz.underlying0
  a0:=Tryz.isAgg0
  z0:=Tryz.sizeOf0
  v0:=Tryz.zeroValue0
  t2:=Tryz.underlying2
  a2:=Tryz.isAgg2
  z2:=Tryz.sizeOf2
  v2:=Tryz.zeroValue2
  t3:=Tryz.underlying3
  a3:=Tryz.isAgg3
  z3:=Tryz.sizeOf3
  v3:=Tryz.zeroValue3
  t4:=Tryz.underlying4
  a4:=Tryz.isAgg4
  z4:=Tryz.sizeOf4
  v4:=Tryz.zeroValue4
  t5:=Tryz.underlying5
  a5:=Tryz.isAgg5
  z5:=Tryz.sizeOf5
  v5:=Tryz.zeroValue5
  t9:=Tryz.underlying9
  a9:=Tryz.isAgg9
  z9:=Tryz.sizeOf9
  v9:=Tryz.zeroValue9
  t20:=Tryz.underlying20
  a20:=Tryz.isAgg20
  z20:=Tryz.sizeOf20
  v20:=Tryz.zeroValue20
  t37:=Tryz.underlying175
  a37:=Tryz.isAgg175
  z37:=Tryz.sizeOf175
  v37:=Tryz.zeroValue175
  t46:=Tryz.underlying260
  a46:=Tryz.isAgg260
  z46:=Tryz.sizeOf260
  v46:=Tryz.zeroValue260
  t51:=Tryz.underlying270
  a51:=Tryz.isAgg270
  z51:=Tryz.sizeOf270
  v51:=Tryz.zeroValue270
  t53:=Tryz.underlying261
  a53:=Tryz.isAgg261
  z53:=Tryz.sizeOf261
  v53:=Tryz.zeroValue261
  t171:=Tryz.underlying284
  a171:=Tryz.isAgg284
  z171:=Tryz.sizeOf284
  v171:=Tryz.zeroValue284
  t173:=Tryz.underlying287
  a173:=Tryz.isAgg287
  z173:=Tryz.sizeOf287
  v173:=Tryz.zeroValue287
  t212:=Tryz.underlying290
  a212:=Tryz.isAgg290
  z212:=Tryz.sizeOf290
  v212:=Tryz.zeroValue290
  t213:=Tryz.underlying291
  a213:=Tryz.isAgg291
  z213:=Tryz.sizeOf291
  t232:=Tryz.underlying294
  a232:=Tryz.isAgg294
  z232:=Tryz.sizeOf294
  v232:=Tryz.zeroValue294
  t233:=Tryz.underlying295
  a233:=Tryz.isAgg295
  z233:=Tryz.sizeOf295
  v233:=Tryz.zeroValue295
  g17:=by kernel_rfl
  g18:=by kernel_rfl
  g19:=by kernel_rfl
  i0:=by kernel_rfl
  i2:=by kernel_rfl
  i3:=by kernel_rfl
  i4:=by kernel_rfl
  i5:=by kernel_rfl
  i9:=by kernel_rfl
  i20:=by kernel_rfl
  i37:=by kernel_rfl
  i46:=by kernel_rfl
  i51:=by kernel_rfl
  i53:=by kernel_rfl
  i171:=by kernel_rfl
  i173:=by kernel_rfl
  i212:=by kernel_rfl
  i232:=by kernel_rfl
  i233:=by kernel_rfl
  m17:=by kernel_rfl
  m18:=by kernel_rfl
  m19:=by kernel_rfl }
def kO:Ren:=⟨fun|172=>141|244=>163|245=>164|247=>182|279=>183|280=>184|281=>185|282=>186|287=>203|316=>204|171=>206|205=>205|321=>213|322=>214|243=>215|246=>217|283=>218|284=>219|285=>220|286=>221|129=>223|317=>222|318=>224|319=>225|320=>226|337=>227|338=>228|n=>n,fun|9=>9|3=>3|75=>181|76=>182|4=>4|5=>5|167=>246|37=>175|0=>0|85=>247|2=>2|168=>249|53=>261|175=>262|46=>260|210=>266|127=>221|145=>281|143=>279|21=>21|171=>284|173=>287|212=>290|51=>270|20=>20|213=>291|232=>294|233=>295|80=>101|n=>n,fun|15=>2|16=>3|17=>6|18=>7|19=>8|n=>n⟩
theorem Kf:LaysC.n172 Tryz.prog kO:={
  mixed:=by kernel_rfl
  f129:=Tryz.func223.trans (congrArg some (by kernel_rfl))
  f171:=Tryz.func206.trans (congrArg some (by kernel_rfl))
  f172:=Tryz.func141.trans (congrArg some (by kernel_rfl))
  f205:=Tryz.func205.trans (congrArg some (by kernel_rfl))
  f243:=Tryz.func215.trans (congrArg some (by kernel_rfl))
  f244:=Tryz.func163.trans (congrArg some (by kernel_rfl))
  f245:=Tryz.func164.trans (congrArg some (by kernel_rfl))
  f246:=Tryz.func217.trans (congrArg some (by kernel_rfl))
  f247:=Tryz.func182.trans (congrArg some (by kernel_rfl))
  f279:=Tryz.func183.trans (congrArg some (by kernel_rfl))
  f280:=Tryz.func184.trans (congrArg some (by kernel_rfl))
  f281:=Tryz.func185.trans (congrArg some (by kernel_rfl))
  f282:=Tryz.func186.trans (congrArg some (by kernel_rfl))
  f283:=Tryz.func218.trans (congrArg some (by kernel_rfl))
  f284:=Tryz.func219.trans (congrArg some (by kernel_rfl))
  f285:=Tryz.func220.trans (congrArg some (by kernel_rfl))
  f286:=Tryz.func221.trans (congrArg some (by kernel_rfl))
  f287:=Tryz.func203.trans (congrArg some (by kernel_rfl))
  f316:=Tryz.func204.trans (congrArg some (by kernel_rfl))
  f317:=Tryz.func222.trans (congrArg some (by kernel_rfl))
  f318:=Tryz.func224.trans (congrArg some (by kernel_rfl))
  f319:=Tryz.func225.trans (congrArg some (by kernel_rfl))
  f320:=Tryz.func226.trans (congrArg some (by kernel_rfl))
  f321:=Tryz.func213.trans (congrArg some (by kernel_rfl))
  f322:=Tryz.func214.trans (congrArg some (by kernel_rfl))
  f337:=Tryz.func227.trans (congrArg some (by kernel_rfl))
  f338:=Tryz.func228.trans (congrArg some (by kernel_rfl))
  t0:=Tryz.underlying0
  a0:=Tryz.isAgg0
  z0:=Tryz.sizeOf0
  v0:=Tryz.zeroValue0
  t2:=Tryz.underlying2
  a2:=Tryz.isAgg2
  z2:=Tryz.sizeOf2
  v2:=Tryz.zeroValue2
  t3:=Tryz.underlying3
  a3:=Tryz.isAgg3
  z3:=Tryz.sizeOf3
  v3:=Tryz.zeroValue3
  t4:=Tryz.underlying4
  a4:=Tryz.isAgg4
  z4:=Tryz.sizeOf4
  v4:=Tryz.zeroValue4
  t5:=Tryz.underlying5
  a5:=Tryz.isAgg5
  z5:=Tryz.sizeOf5
  v5:=Tryz.zeroValue5
  t9:=Tryz.underlying9
  a9:=Tryz.isAgg9
  z9:=Tryz.sizeOf9
  v9:=Tryz.zeroValue9
  t20:=Tryz.underlying20
  a20:=Tryz.isAgg20
  z20:=Tryz.sizeOf20
  v20:=Tryz.zeroValue20
  t21:=Tryz.underlying21
  a21:=Tryz.isAgg21
  z21:=Tryz.sizeOf21
  v21:=Tryz.zeroValue21
  t37:=Tryz.underlying175
  a37:=Tryz.isAgg175
  z37:=Tryz.sizeOf175
  v37:=Tryz.zeroValue175
  t46:=Tryz.underlying260
  a46:=Tryz.isAgg260
  z46:=Tryz.sizeOf260
  v46:=Tryz.zeroValue260
  t51:=Tryz.underlying270
  a51:=Tryz.isAgg270
  z51:=Tryz.sizeOf270
  v51:=Tryz.zeroValue270
  t53:=Tryz.underlying261
  a53:=Tryz.isAgg261
  z53:=Tryz.sizeOf261
  v53:=Tryz.zeroValue261
  t75:=Tryz.underlying181
  a75:=Tryz.isAgg181
  z75:=Tryz.sizeOf181
  v75:=Tryz.zeroValue181
  t76:=Tryz.underlying182
  a76:=Tryz.isAgg182
  z76:=Tryz.sizeOf182
  v76:=Tryz.zeroValue182
  t85:=Tryz.underlying247
  a85:=Tryz.isAgg247
  z85:=Tryz.sizeOf247
  v85:=Tryz.zeroValue247
  t127:=Tryz.underlying221
  a127:=Tryz.isAgg221
  z127:=Tryz.sizeOf221
  v127:=Tryz.zeroValue221
  t143:=Tryz.underlying279
  a143:=Tryz.isAgg279
  z143:=Tryz.sizeOf279
  v143:=Tryz.zeroValue279
  t145:=Tryz.underlying281
  a145:=Tryz.isAgg281
  z145:=Tryz.sizeOf281
  v145:=Tryz.zeroValue281
  t167:=Tryz.underlying246
  a167:=Tryz.isAgg246
  z167:=Tryz.sizeOf246
  v167:=Tryz.zeroValue246
  t168:=Tryz.underlying249
  a168:=Tryz.isAgg249
  z168:=Tryz.sizeOf249
  v168:=Tryz.zeroValue249
  t171:=Tryz.underlying284
  a171:=Tryz.isAgg284
  z171:=Tryz.sizeOf284
  v171:=Tryz.zeroValue284
  t173:=Tryz.underlying287
  a173:=Tryz.isAgg287
  z173:=Tryz.sizeOf287
  v173:=Tryz.zeroValue287
  t175:=Tryz.underlying262
  a175:=Tryz.isAgg262
  z175:=Tryz.sizeOf262
  v175:=Tryz.zeroValue262
  t210:=Tryz.underlying266
  a210:=Tryz.isAgg266
  z210:=Tryz.sizeOf266
  v210:=Tryz.zeroValue266
  t212:=Tryz.underlying290
  a212:=Tryz.isAgg290
  z212:=Tryz.sizeOf290
  v212:=Tryz.zeroValue290
  t213:=Tryz.underlying291
  a213:=Tryz.isAgg291
  z213:=Tryz.sizeOf291
  t232:=Tryz.underlying294
  a232:=Tryz.isAgg294
  z232:=Tryz.sizeOf294
  v232:=Tryz.zeroValue294
  t233:=Tryz.underlying295
  a233:=Tryz.isAgg295
  z233:=Tryz.sizeOf295
  v233:=Tryz.zeroValue295
  g15:=by kernel_rfl
  g16:=by kernel_rfl
  g17:=by kernel_rfl
  g18:=by kernel_rfl
  g19:=by kernel_rfl
  t80:=Tryz.underlying101
  a80:=Tryz.isAgg101
  z80:=Tryz.sizeOf101
  v80:=Tryz.zeroValue101
  i0:=by kernel_rfl
  i2:=by kernel_rfl
  i3:=by kernel_rfl
  i4:=by kernel_rfl
  i5:=by kernel_rfl
  i9:=by kernel_rfl
  i20:=by kernel_rfl
  i21:=by kernel_rfl
  i37:=by kernel_rfl
  i46:=by kernel_rfl
  i51:=by kernel_rfl
  i53:=by kernel_rfl
  i75:=by kernel_rfl
  i76:=by kernel_rfl
  i80:=by kernel_rfl
  i85:=by kernel_rfl
  i127:=by kernel_rfl
  i143:=by kernel_rfl
  i145:=by kernel_rfl
  i167:=by kernel_rfl
  i168:=by kernel_rfl
  i171:=by kernel_rfl
  i173:=by kernel_rfl
  i175:=by kernel_rfl
  i210:=by kernel_rfl
  i212:=by kernel_rfl
  i232:=by kernel_rfl
  i233:=by kernel_rfl
  m15:=by kernel_rfl
  m16:=by kernel_rfl
  m17:=by kernel_rfl
  m18:=by kernel_rfl
  m19:=by kernel_rfl
  c0:=by kernel_rfl
  c2:=by kernel_rfl
  c3:=by kernel_rfl
  c4:=by kernel_rfl
  c5:=by kernel_rfl
  c9:=by kernel_rfl
  c20:=by kernel_rfl
  c21:=by kernel_rfl
  c37:=by kernel_rfl
  c46:=by kernel_rfl
  c51:=by kernel_rfl
  c53:=by kernel_rfl
  c75:=by kernel_rfl
  c76:=by kernel_rfl
  c80:=by kernel_rfl
  c85:=by kernel_rfl
  c127:=by kernel_rfl
  c143:=by kernel_rfl
  c145:=by kernel_rfl
  c167:=by kernel_rfl
  c168:=by kernel_rfl
  c171:=by kernel_rfl
  c173:=by kernel_rfl
  c175:=by kernel_rfl
  c210:=by kernel_rfl
  c212:=by kernel_rfl
  c213:=by kernel_rfl
  c232:=by kernel_rfl
  c233:=by kernel_rfl }
def xZ:Ren:=⟨fun|103=>108|210=>139|206=>162|n=>n,fun|9=>9|4=>4|24=>163|3=>3|n=>n,fun|n=>n⟩
theorem K0:Lays.n103 Tryz.prog xZ:={
  mixed:=by kernel_rfl
  f103:=Tryz.func108.trans (congrArg some (by kernel_rfl))
  f206:=Tryz.func162.trans (congrArg some (by kernel_rfl))
  f210:=Tryz.func139.trans (congrArg some (by kernel_rfl))
  t3:=Tryz.underlying3
  a3:=Tryz.isAgg3
  z3:=Tryz.sizeOf3
  v3:=Tryz.zeroValue3
  t4:=Tryz.underlying4
  a4:=Tryz.isAgg4
  z4:=Tryz.sizeOf4
  v4:=Tryz.zeroValue4
  t9:=Tryz.underlying9
  a9:=Tryz.isAgg9
  z9:=Tryz.sizeOf9
  v9:=Tryz.zeroValue9
  t24:=Tryz.underlying163
  a24:=Tryz.isAgg163
  z24:=Tryz.sizeOf163
  v24:=Tryz.zeroValue163 }
abbrev KP:Nat:=6
theorem ua:Tryz.prog.globalNamed "internal/strconv.uint64pow10" = some KP:=by kernel_rfl
theorem c171:dO Tryz.prog 206:=⟨Tryz.f206,aG Tryz.f206,Tryz.func206,by kernel_rfl,by kernel_rfl⟩
theorem Wj:dO Tryz.prog 141:=⟨Tryz.f141,aG Tryz.f141,Tryz.func141,by kernel_rfl,by kernel_rfl⟩
theorem WW:dO Tryz.prog 108:=⟨Tryz.f108,aG Tryz.f108,Tryz.func108,by kernel_rfl,by kernel_rfl⟩
end Go.Proofs.YtdlbaonelfcahaaGreatDoor
namespace Go.Proofs.YtdlbaonelfcahaaGreatDoor
open Go.AM Go.Shelf
def lq:Ren:=⟨fun|146=>107|221=>138|268=>159|138=>160|143=>161|195=>180|197=>174|218=>181|219=>171|260=>202|217=>197|225=>198|224=>199|267=>200|266=>210|314=>211|n=>n,fun|9=>9|31=>143|3=>3|4=>4|0=>0|105=>240|21=>21|5=>5|46=>260|119=>274|139=>277|138=>276|146=>271|51=>270|n=>n,fun|1=>1|3=>4|4=>5|n=>n⟩
theorem Df:Lays.n146 Tryz.prog lq:={
  mixed:=by kernel_rfl
  f138:=Tryz.func160.trans (congrArg some (by kernel_rfl))
  f143:=Tryz.func161.trans (congrArg some (by kernel_rfl))
  f146:=Tryz.func107.trans (congrArg some (by kernel_rfl))
  f195:=Tryz.func180.trans (congrArg some (by kernel_rfl))
  f197:=Tryz.func174.trans (congrArg some (by kernel_rfl))
  f217:=Tryz.func197.trans (congrArg some (by kernel_rfl))
  f218:=Tryz.func181.trans (congrArg some (by kernel_rfl))
  f219:=Tryz.func171.trans (congrArg some (by kernel_rfl))
  f221:=Tryz.func138.trans (congrArg some (by kernel_rfl))
  f224:=Tryz.func199.trans (congrArg some (by kernel_rfl))
  f225:=Tryz.func198.trans (congrArg some (by kernel_rfl))
  f260:=Tryz.func202.trans (congrArg some (by kernel_rfl))
  f266:=Tryz.func210.trans (congrArg some (by kernel_rfl))
  f267:=Tryz.func200.trans (congrArg some (by kernel_rfl))
  f268:=Tryz.func159.trans (congrArg some (by kernel_rfl))
  f314:=Tryz.func211.trans (congrArg some (by kernel_rfl))
  t0:=Tryz.underlying0
  a0:=Tryz.isAgg0
  z0:=Tryz.sizeOf0
  v0:=Tryz.zeroValue0
  t3:=Tryz.underlying3
  a3:=Tryz.isAgg3
  z3:=Tryz.sizeOf3
  v3:=Tryz.zeroValue3
  t4:=Tryz.underlying4
  a4:=Tryz.isAgg4
  z4:=Tryz.sizeOf4
  v4:=Tryz.zeroValue4
  t5:=Tryz.underlying5
  a5:=Tryz.isAgg5
  z5:=Tryz.sizeOf5
  v5:=Tryz.zeroValue5
  t9:=Tryz.underlying9
  a9:=Tryz.isAgg9
  z9:=Tryz.sizeOf9
  v9:=Tryz.zeroValue9
  t21:=Tryz.underlying21
  a21:=Tryz.isAgg21
  z21:=Tryz.sizeOf21
  v21:=Tryz.zeroValue21
  t31:=Tryz.underlying143
  a31:=Tryz.isAgg143
  z31:=Tryz.sizeOf143
  v31:=Tryz.zeroValue143
  t46:=Tryz.underlying260
  a46:=Tryz.isAgg260
  z46:=Tryz.sizeOf260
  v46:=Tryz.zeroValue260
  t51:=Tryz.underlying270
  a51:=Tryz.isAgg270
  z51:=Tryz.sizeOf270
  v51:=Tryz.zeroValue270
  t105:=Tryz.underlying240
  a105:=Tryz.isAgg240
  z105:=Tryz.sizeOf240
  v105:=Tryz.zeroValue240
  t119:=Tryz.underlying274
  a119:=Tryz.isAgg274
  z119:=Tryz.sizeOf274
  t138:=Tryz.underlying276
  a138:=Tryz.isAgg276
  z138:=Tryz.sizeOf276
  v138:=Tryz.zeroValue276
  t139:=Tryz.underlying277
  a139:=Tryz.isAgg277
  z139:=Tryz.sizeOf277
  v139:=Tryz.zeroValue277
  t146:=Tryz.underlying271
  a146:=Tryz.isAgg271
  z146:=Tryz.sizeOf271
  v146:=Tryz.zeroValue271
  g1:=by kernel_rfl
  g3:=by kernel_rfl
  g4:=by kernel_rfl }
def xX:Ren:=⟨fun|145=>112|220=>145|219=>171|217=>197|225=>198|224=>199|267=>200|266=>210|314=>211|n=>n,fun|9=>9|4=>4|59=>178|3=>3|5=>5|46=>260|146=>271|51=>270|n=>n,fun|1=>1|n=>n⟩
theorem J7:Lays.n145 Tryz.prog xX:={
  mixed:=by kernel_rfl
  f145:=Tryz.func112.trans (congrArg some (by kernel_rfl))
  f217:=Tryz.func197.trans (congrArg some (by kernel_rfl))
  f219:=Tryz.func171.trans (congrArg some (by kernel_rfl))
  f220:=Tryz.func145.trans (congrArg some (by kernel_rfl))
  f224:=Tryz.func199.trans (congrArg some (by kernel_rfl))
  f225:=Tryz.func198.trans (congrArg some (by kernel_rfl))
  f266:=Tryz.func210.trans (congrArg some (by kernel_rfl))
  f267:=Tryz.func200.trans (congrArg some (by kernel_rfl))
  f314:=Tryz.func211.trans (congrArg some (by kernel_rfl))
  t3:=Tryz.underlying3
  a3:=Tryz.isAgg3
  z3:=Tryz.sizeOf3
  v3:=Tryz.zeroValue3
  t4:=Tryz.underlying4
  a4:=Tryz.isAgg4
  z4:=Tryz.sizeOf4
  v4:=Tryz.zeroValue4
  t5:=Tryz.underlying5
  a5:=Tryz.isAgg5
  z5:=Tryz.sizeOf5
  v5:=Tryz.zeroValue5
  t9:=Tryz.underlying9
  a9:=Tryz.isAgg9
  z9:=Tryz.sizeOf9
  v9:=Tryz.zeroValue9
  t46:=Tryz.underlying260
  a46:=Tryz.isAgg260
  z46:=Tryz.sizeOf260
  v46:=Tryz.zeroValue260
  t51:=Tryz.underlying270
  a51:=Tryz.isAgg270
  z51:=Tryz.sizeOf270
  v51:=Tryz.zeroValue270
  t59:=Tryz.underlying178
  a59:=Tryz.isAgg178
  z59:=Tryz.sizeOf178
  v59:=Tryz.zeroValue178
  t146:=Tryz.underlying271
  a146:=Tryz.isAgg271
  z146:=Tryz.sizeOf271
  v146:=Tryz.zeroValue271
  g1:=by kernel_rfl }
def jr:Ren:=⟨fun|155=>114|154=>147|138=>160|165=>173|143=>161|166=>113|197=>174|169=>115|195=>180|218=>181|240=>146|241=>201|219=>171|260=>202|276=>172|277=>212|217=>197|225=>198|224=>199|267=>200|266=>210|314=>211|n=>n,fun|9=>9|3=>3|4=>4|72=>177|0=>0|76=>182|105=>240|21=>21|5=>5|70=>174|20=>20|37=>175|75=>181|127=>221|164=>237|46=>260|119=>274|139=>277|138=>276|146=>271|51=>270|80=>101|n=>n,fun|1=>1|3=>4|4=>5|n=>n⟩
set_option maxRecDepth 100000 in
theorem xT:Lays.n155 Tryz.prog jr:={
  mixed:=by kernel_rfl
  f138:=Tryz.func160.trans (congrArg some (by kernel_rfl))
  f143:=Tryz.func161.trans (congrArg some (by kernel_rfl))
  f154:=Tryz.func147.trans (congrArg some (by kernel_rfl))
  f155:=Tryz.func114.trans (congrArg some (by kernel_rfl))
  f165:=Tryz.func173.trans (congrArg some (by kernel_rfl))
  f166:=Tryz.func113.trans (congrArg some (by kernel_rfl))
  f169:=Tryz.func115.trans (congrArg some (by kernel_rfl))
  f195:=Tryz.func180.trans (congrArg some (by kernel_rfl))
  f197:=Tryz.func174.trans (congrArg some (by kernel_rfl))
  f217:=Tryz.func197.trans (congrArg some (by kernel_rfl))
  f218:=Tryz.func181.trans (congrArg some (by kernel_rfl))
  f219:=Tryz.func171.trans (congrArg some (by kernel_rfl))
  f224:=Tryz.func199.trans (congrArg some (by kernel_rfl))
  f225:=Tryz.func198.trans (congrArg some (by kernel_rfl))
  f240:=Tryz.func146.trans (congrArg some (by kernel_rfl))
  f241:=Tryz.func201.trans (congrArg some (by kernel_rfl))
  f260:=Tryz.func202.trans (congrArg some (by kernel_rfl))
  f266:=Tryz.func210.trans (congrArg some (by kernel_rfl))
  f267:=Tryz.func200.trans (congrArg some (by kernel_rfl))
  f276:=Tryz.func172.trans (congrArg some (by kernel_rfl))
  f277:=Tryz.func212.trans (congrArg some (by kernel_rfl))
  f314:=Tryz.func211.trans (congrArg some (by kernel_rfl))
  t0:=Tryz.underlying0
  a0:=Tryz.isAgg0
  z0:=Tryz.sizeOf0
  v0:=Tryz.zeroValue0
  t3:=Tryz.underlying3
  a3:=Tryz.isAgg3
  z3:=Tryz.sizeOf3
  v3:=Tryz.zeroValue3
  t4:=Tryz.underlying4
  a4:=Tryz.isAgg4
  z4:=Tryz.sizeOf4
  v4:=Tryz.zeroValue4
  t5:=Tryz.underlying5
  a5:=Tryz.isAgg5
  z5:=Tryz.sizeOf5
  v5:=Tryz.zeroValue5
  t9:=Tryz.underlying9
  a9:=Tryz.isAgg9
  z9:=Tryz.sizeOf9
  v9:=Tryz.zeroValue9
  t20:=Tryz.underlying20
  a20:=Tryz.isAgg20
  z20:=Tryz.sizeOf20
  v20:=Tryz.zeroValue20
  t21:=Tryz.underlying21
  a21:=Tryz.isAgg21
  z21:=Tryz.sizeOf21
  v21:=Tryz.zeroValue21
  t37:=Tryz.underlying175
  a37:=Tryz.isAgg175
  z37:=Tryz.sizeOf175
  v37:=Tryz.zeroValue175
  t46:=Tryz.underlying260
  a46:=Tryz.isAgg260
  z46:=Tryz.sizeOf260
  v46:=Tryz.zeroValue260
  t51:=Tryz.underlying270
  a51:=Tryz.isAgg270
  z51:=Tryz.sizeOf270
  v51:=Tryz.zeroValue270
  t70:=Tryz.underlying174
  a70:=Tryz.isAgg174
  z70:=Tryz.sizeOf174
  v70:=Tryz.zeroValue174
  t72:=Tryz.underlying177
  a72:=Tryz.isAgg177
  z72:=Tryz.sizeOf177
  v72:=Tryz.zeroValue177
  t75:=Tryz.underlying181
  a75:=Tryz.isAgg181
  z75:=Tryz.sizeOf181
  v75:=Tryz.zeroValue181
  t76:=Tryz.underlying182
  a76:=Tryz.isAgg182
  z76:=Tryz.sizeOf182
  v76:=Tryz.zeroValue182
  t105:=Tryz.underlying240
  a105:=Tryz.isAgg240
  z105:=Tryz.sizeOf240
  v105:=Tryz.zeroValue240
  t119:=Tryz.underlying274
  a119:=Tryz.isAgg274
  z119:=Tryz.sizeOf274
  t127:=Tryz.underlying221
  a127:=Tryz.isAgg221
  z127:=Tryz.sizeOf221
  v127:=Tryz.zeroValue221
  t138:=Tryz.underlying276
  a138:=Tryz.isAgg276
  z138:=Tryz.sizeOf276
  v138:=Tryz.zeroValue276
  t139:=Tryz.underlying277
  a139:=Tryz.isAgg277
  z139:=Tryz.sizeOf277
  v139:=Tryz.zeroValue277
  t146:=Tryz.underlying271
  a146:=Tryz.isAgg271
  z146:=Tryz.sizeOf271
  v146:=Tryz.zeroValue271
  t164:=Tryz.underlying237
  a164:=Tryz.isAgg237
  z164:=Tryz.sizeOf237
  v164:=Tryz.zeroValue237
  g1:=by kernel_rfl
  g3:=by kernel_rfl
  g4:=by kernel_rfl }
def pI:Ren:=⟨fun|156=>193|165=>173|166=>113|169=>115|240=>146|241=>201|276=>172|277=>212|n=>n,fun|31=>143|9=>9|3=>3|4=>4|0=>0|20=>20|72=>177|76=>182|70=>174|37=>175|75=>181|127=>221|164=>237|5=>5|80=>101|n=>n,fun|n=>n⟩
set_option maxRecDepth 100000 in
theorem KS:Lays.n156 Tryz.prog pI:={
  mixed:=by kernel_rfl
  f156:=Tryz.func193.trans (congrArg some (by kernel_rfl))
  f165:=Tryz.func173.trans (congrArg some (by kernel_rfl))
  f166:=Tryz.func113.trans (congrArg some (by kernel_rfl))
  f169:=Tryz.func115.trans (congrArg some (by kernel_rfl))
  f240:=Tryz.func146.trans (congrArg some (by kernel_rfl))
  f241:=Tryz.func201.trans (congrArg some (by kernel_rfl))
  f276:=Tryz.func172.trans (congrArg some (by kernel_rfl))
  f277:=Tryz.func212.trans (congrArg some (by kernel_rfl))
  t0:=Tryz.underlying0
  a0:=Tryz.isAgg0
  z0:=Tryz.sizeOf0
  v0:=Tryz.zeroValue0
  t3:=Tryz.underlying3
  a3:=Tryz.isAgg3
  z3:=Tryz.sizeOf3
  v3:=Tryz.zeroValue3
  t4:=Tryz.underlying4
  a4:=Tryz.isAgg4
  z4:=Tryz.sizeOf4
  v4:=Tryz.zeroValue4
  t9:=Tryz.underlying9
  a9:=Tryz.isAgg9
  z9:=Tryz.sizeOf9
  v9:=Tryz.zeroValue9
  t20:=Tryz.underlying20
  a20:=Tryz.isAgg20
  z20:=Tryz.sizeOf20
  v20:=Tryz.zeroValue20
  t31:=Tryz.underlying143
  a31:=Tryz.isAgg143
  z31:=Tryz.sizeOf143
  v31:=Tryz.zeroValue143
  t37:=Tryz.underlying175
  a37:=Tryz.isAgg175
  z37:=Tryz.sizeOf175
  v37:=Tryz.zeroValue175
  t70:=Tryz.underlying174
  a70:=Tryz.isAgg174
  z70:=Tryz.sizeOf174
  v70:=Tryz.zeroValue174
  t72:=Tryz.underlying177
  a72:=Tryz.isAgg177
  z72:=Tryz.sizeOf177
  v72:=Tryz.zeroValue177
  t75:=Tryz.underlying181
  a75:=Tryz.isAgg181
  z75:=Tryz.sizeOf181
  v75:=Tryz.zeroValue181
  t76:=Tryz.underlying182
  a76:=Tryz.isAgg182
  z76:=Tryz.sizeOf182
  v76:=Tryz.zeroValue182
  t127:=Tryz.underlying221
  a127:=Tryz.isAgg221
  z127:=Tryz.sizeOf221
  v127:=Tryz.zeroValue221
  t164:=Tryz.underlying237
  a164:=Tryz.isAgg237
  z164:=Tryz.sizeOf237
  v164:=Tryz.zeroValue237 }
theorem kR:Lays.n166 Tryz.prog jr:={ xT with }
theorem xK:Lays.n169 Tryz.prog jr:={ xT with }
set_option maxRecDepth 100000 in
theorem qE:Builder.Extra Tryz.prog jr where
  sizeBuilder:=by kernel_rfl
  liesBuilder:=by kernel_rfl
  t5:=by kernel_rfl
  a5:=Tryz.isAgg5
  z5:=Tryz.sizeOf5
  v5:=Tryz.zeroValue5
  infoByte:=by kernel_rfl
  cellsByte:=by kernel_rfl
  sizeByte:=by kernel_rfl
  neB5:=by decide
set_option maxRecDepth 100000 in
theorem O8:Builder.Extra Tryz.prog pI where
  sizeBuilder:=by kernel_rfl
  liesBuilder:=by kernel_rfl
  t5:=by kernel_rfl
  a5:=Tryz.isAgg5
  z5:=Tryz.sizeOf5
  v5:=Tryz.zeroValue5
  infoByte:=by kernel_rfl
  cellsByte:=by kernel_rfl
  sizeByte:=by kernel_rfl
  neB5:=by decide
end Go.Proofs.YtdlbaonelfcahaaGreatDoor
namespace Go.Proofs.YtdlbaonelfcahaaGreatDoor
open Go.AM
variable {Γ:bG}
def CT(Γ:bG):Prop:=Γ KP=some (Lib.pow10Tab.map (AV.int .u64))
theorem Lp(hΓ:CT Γ)(n:Int)(hn:i64 n)(h:AH):T Tryz.prog Γ Fn.Yw [.int .i64 n] h fun v h'=>v=.str (bp n)∧h'=h:=
  Kk KL c171 ua hΓ n hn.1 hn.2 h
theorem M0(hΓ:CT Γ)(n:Int)(hn:i64 n)(h:AH):T Tryz.prog Γ Fn.Vr [.int .i64 n] h fun v h'=>v=.str (bp n)∧h'=h:=by
  refine Qn (au aF mixed [] _ _ _ ?_)
  unfold GY
  simp only[EZ,ah,Nat.reduceAdd,Nat.reduceBEq,CG]
  refine aq.val (by simp only[EO]) (Lp hΓ n hn _) ?_
  simp only[EZ,ah,Nat.reduceAdd,Nat.reduceBEq,CG]
  first|exact⟨rfl,rfl⟩|exact rfl
structure ik (Γ:bG):Prop where
  itoa:CT Γ
  e1:∃t p,Γ (kO.g 15)=some [.opq (.iface t p)]
  e2:∃t p,Γ (kO.g 16)=some [.opq (.iface t p)]
  mx:∃m,Γ 1=some [.opq (.int .i64 m)]
  ops:Γ 0=some (opsL.map AV.str)
theorem Mb(hΓ:ik Γ){w:Tx}(hw:w.length≤1000)(ha:vd w=true)(h:AH):
    T Tryz.prog Γ Fn.YJ [.str (tb w)] h fun v h'=>(match mg w with|some n=>v=.tup [.int .i64 n,.opq .nilIface]|none=>∃x t p,v=.tup [.int .i64 x,.opq (.iface t p)])∧h'=h:=by
  obtain⟨t1,p1,h1⟩:=hΓ.e1
  obtain⟨t2,p2,h2⟩:=hΓ.e2
  refine(KC Kf Wj h1 h2 (tb w) (by rw[dV];omega) h).mono ?_
  rintro v h' ⟨⟨x,e,rfl,hx⟩,rfl⟩
  refine⟨?_,rfl⟩
  have ew:(tb w).data.toList=w:=by simp[tb]
  unfold wX at hx
  unfold vd at ha
  rw[ew]at hx
  cases hn:mg w with
  | some n=>
    rw[hn]at ha
    cases hq:Lib.atoiAll w with
    | ok m=>
      rw[hq]at hx ha
      simp only[decide_eq_true_eq]at ha
      obtain⟨rfl,rfl⟩:=hx
      rw[ha]
    | _=>rw[hq]at ha;cases ha
  | none=>
    rw[hn]at ha
    cases hq:Lib.atoiAll w with
    | ok m=>rw[hq]at ha;cases ha
    | _=>rw[hq]at hx;obtain⟨t,p,rfl⟩:=hx;exact⟨x,t,p,rfl⟩
theorem xx(s p:Tx)(h:AH):T Tryz.prog Γ Fn.WY [.str (tb s),.str (tb p)] h fun v h'=>v=.tup [.str (tb (Lib.trimPrefix s p)),.bool (Lib.hasPrefix s p)]∧h'=h:=by
  have:=wH (Γ:=Γ) K0 WW (tb s) (tb p) h
  have e1:(tb s).data.toList=s:=by simp[tb]
  have e2:(tb p).data.toList=p:=by simp[tb]
  rw[e1,e2]at this
  exact this
theorem c146:dO Tryz.prog 107:=⟨Tryz.f107,aG Tryz.f107,Tryz.func107,by kernel_rfl,by kernel_rfl⟩
theorem c156:dO Tryz.prog 193:=⟨Tryz.f193,aG Tryz.f193,Tryz.func193,by kernel_rfl,by kernel_rfl⟩
theorem Gr(hΓ:ik Γ){ρ:cN}{w:World}{h:AH}(gg:uu Γ ρ)(r:RH ρ [] [] h w):∃m,w.cell? ⟨1,0,none⟩=some (.int .i64 m):=by
  obtain⟨m,hm⟩:=hΓ.mx
  obtain⟨arr,T,fr,k1,k2,k3⟩:=gg.var r hm
  obtain⟨y,hy,ry⟩:=k3 0 _ rfl
  cases ry
  exact⟨m,by rw[cell_of k1];exact hy⟩
theorem DI(hΓ:ik Γ)(s sep:ByteArray)(hs:s.size<4294967281)(h1:1≤sep.size){xs:List ByteArray}(hx:Lib.splitB sep 0 (Lib.countB s sep) s=xs)(hn:xs.length=Lib.countB s sep+1)(h:AH):
    T Tryz.prog Γ Fn.Ux [.str s,.str sep] h fun v h'=>v=(iw xs).av false∧h'=h:=by
  refine T.J4 (T.iI ?_)
  refine⟨c146,fun ρ w cargs r gg ra=>?_⟩
  obtain⟨v,u,rfl,rv,ru⟩:=uF ra
  cases rv;cases ru
  obtain⟨m,hm⟩:=Gr hΓ gg r
  refine(Any.strings_Split Df (by kernel_rfl) s sep m w hs hm h1).mono ?_
  rintro e w' ⟨rfl,rfl⟩
  rw[hx,←hn]
  have nb:iK w (Obj.cells (xs.map Value.string).toArray (lq.t 9)) (w.alloc (.cells (xs.map Value.string).toArray (lq.t 9))):=iK.push w _
  obtain⟨r',ev⟩:=r.lC (cs:=xs.map AV.str) nb (.inl (Nat.le_refl _)) (by simp) (fun i x hx=>by
    rw[List.getElem?_map]at hx
    cases hc:xs[i]? with
    | none=>simp[hc]at hx
    | some y=>simp[hc]at hx;subst hx;exact⟨.string y,by simp[hc],.str _ _⟩)
  have hI:(ρ.ins h.length 0 (w.heap.size,0,(xs.map Value.string).toArray.size)).m h.length 0=some (w.heap.size,0,xs.length):=by simp[cN.ins]
  have hrv:=RV.gs (ρ:=ρ.ins h.length 0 (w.heap.size,0,(xs.map Value.string).toArray.size)) [] h.length 0 0 xs.length xs.length 1 true w.heap.size 0 xs.length xs.length hI (Nat.le_refl _) (Nat.le_refl _) (fun _=>rfl) (by omega)
  rw[Nat.add_zero]at hrv
  have hown:=pa h xs rfl
  have e:((xs.map fun n=>[AV.str n]).flatten)=xs.map AV.str:=by
    clear hx hn nb r' ev hI hrv hown
    induction xs<;>simp_all
  rw[e]at hown
  exact⟨_,_,_,_,rfl,hrv,r',ev,[some (0,xs.map AV.str)],[h.length],rfl,hown,by simp,by simp⟩
theorem Kq{β:Bool}{ex:Bool}(xs:List Tx)(sep:Tx)(h0:xs≠[])(hN:xs.length≤1000)(hl:(Lib.join xs sep).length≤100000)(h:AH):
    T Tryz.prog Γ Fn.XQ [.vs β 1 ex (xs.map fun w=>[.str (tb w)]),.str (tb sep)] h fun v h'=>v=.str (tb (Lib.join xs sep))∧h'=h:=by
  refine⟨c156,fun ρ w cargs r gg ra=>?_⟩
  obtain⟨v,u,rfl,rv,ru⟩:=uF ra
  cases ru
  have ed:∀t:Tx,(tb t).data.toList=t:=fun t=>by simp[tb]
  have exs:(xs.map tb).map (·.data.toList)=xs:=by
    rw[List.map_map]
    have:((fun b:ByteArray=>b.data.toList) ∘ tb)=id:=funext ed
    rw[this,List.map_id]
  generalize hq:xs.map (fun w=>[AV.str (tb w)])=q at rv
  have hql:q.length=xs.length:=by rw[←hq,List.length_map]
  cases rv with
  | vs _ _ _ _ _ c o cap' f g1 g2 g3 g4 rr=>
    have hcells:∀(j:Nat) x,(xs.map tb)[j]? = some x→w.cell? ⟨c,o+j,none⟩=some (.string x):=fun j x hx=>by
      rw[List.getElem?_map]at hx
      cases hc:xs[j]? with
      | none=>simp[hc]at hx
      | some y=>
        simp[hc]at hx;subst hx
        have hj:q[j]? = some [AV.str (tb y)]:=by rw[←hq,List.getElem?_map,hc];rfl
        obtain⟨arr,a1,a2⟩:=g4 j _ hj 0 _ rfl
        have a3:=rr j _ hj 0 _ rfl
        obtain⟨T,fr,a4⟩:=r.im _ _ _ a1
        rw[cell_of a4]
        simp only[Nat.mul_one,Nat.add_zero]at a2
        rw[a2]
        generalize f j 0=z at a3
        cases a3;rfl
    have hc0:c<w.heap.size:=by
      obtain⟨y,ys,rfl⟩:=List.exists_cons_of_ne_nil h0
      have hj:q[0]? = some [AV.str (tb y)]:=by rw[←hq];rfl
      obtain⟨arr,a1,_⟩:=g4 0 _ hj 0 _ rfl
      exact r.vn a1
    have:=Any.strings_Join KS O8 c o cap' (xs.map tb) (tb sep) w hcells hc0 (by rw[List.length_map];omega) (by rw[List.length_map];omega) (by rw[exs,ed];omega)
    rw[exs,ed,List.length_map,←hql]at this
    refine this.mono ?_
    rintro e w' ⟨rfl,hb⟩
    exact⟨_,_,ρ,h,rfl,.str _ _,r.below hb,.below hb,rfl,rfl⟩
  | vs0=>exact absurd (List.length_eq_zero_iff.1 (by simpa using hql.symm)) h0
  | vsn=>exact absurd (List.length_eq_zero_iff.1 (by simpa using hql.symm)) h0
end Go.Proofs.YtdlbaonelfcahaaGreatDoor
namespace Go.Proofs.YtdlbaonelfcahaaGreatDoor
open Go.AM
variable {Γ:bG}
theorem PT{l:List ByteArray}{k:Nat}(hk:k<l.length)(e:List AV)(L:List (List AV))(H:AH):(St.mk e L H).cells (.ip false ((l.map AV.str).drop k)) 1=some [.str l[k]]:=by
  simp only[St.cells,sub,List.length_drop,List.length_map,Nat.zero_add,List.drop_zero]
  rw[if_pos (by omega),List.drop_eq_getElem_cons (by simpa using hk)]
  simp
def Cu(s:St)(n sz:Nat):AV→AV→AR
  | x,.int _ k=>.eI s (p8 n sz x k)
  | _,_=>.stuck
theorem Ke(gl:Bool)(s:St)(n sz:Nat)(x i:X):AM.step Γ gl s (.idxa n sz x i)=Cu s n sz (s.eval Γ x) (s.eval Γ i):=by simp only[AM.step];unfold Cu;cases s.eval Γ i<;>rfl
theorem DF(s:St)(n sz:Nat)(x:AV)(κ:IntKind)(k:Int):Cu s n sz x (.int κ k)=.eI s (p8 n sz x k):=rfl
theorem TE(hΓ:ik Γ)(n:Int)(h0:1≤n)(h1:n≤10)(h:AH):T Tryz.prog Γ Fn.Wx [.int .i64 n] h fun v h'=>v=.str (wT n)∧h'=h:=by
  have hin:=fun h=>p7 (Γ:=Γ) n 1 10 h
  rw[show ku n 1 10=true by simp only[ku,Bool.and_eq_true,decide_eq_true_eq];exact⟨h0,h1⟩]at hin
  obtain⟨k,rfl⟩:∃k:Nat,n=k:=⟨n.toNat,by omega⟩
  have hk:k<opsL.length:=by show k<11;omega
  have eo:opsL[k]=wT k:=by
    unfold wT;rw[if_pos (by omega)]
    simp[opsL]
  have hg:∀s:St,s.eval Γ (.g Gn.g0)=.ip false (opsL.map AV.str):=fun s=>by
    show(match Γ 0 with|some cs=>AV.ip false cs|none=>.any)=_
    rw[hΓ.ops]
  have ia:p8 11 1 (.ip false (opsL.map AV.str)) (k:Int)=some (.ip false ((opsL.map AV.str).drop k)):=by
    have:((k:Int)<11):=by omega
    simp[p8,this,mz]
  have rd:=fun e L H=>PT hk e L H
  rw[eo]at rd
  refine QG (au aF mixed [] _ _ _ ?_)
  unfold Jh
  simp only[EZ,ah,Nat.reduceAdd,Nat.reduceBEq,CE]
  refine aq.val (by simp only[EO]) (hin _) ?_
  simp only[EZ,ah,Nat.reduceAdd,Nat.reduceBEq,CE,hg,Ke,DF,ia,rd]
  first|exact⟨rfl,rfl⟩|exact rfl|trivial
theorem uI(l:List ByteArray)(hl:l.length≤1000)(w:ByteArray){i:Nat}(hi:i<l.length)(he:l[i]=w)(hf:∀k,(hk:k<i)→¬l[k]'(by omega)=w)(h:AH):T Tryz.prog Γ Fn.UC [.vs false 1 true (l.map fun n=>[.str n]),.str w] h fun v h'=>v=.int .i64 i∧h'=h:=by
  have L0:=bH false 1 true l fun n=>[AV.str n]
  have i0:=fun k hk=>bW (β:=false) (sz:=1) (ex:=true) (l:=l) (ce:=fun n=>[AV.str n]) (k:=k) hk
  generalize e0:AV.vs false 1 true (l.map fun n=>[AV.str n])=a0 at *
  refine Qd (au aF mixed [] _ _ _ ?_)
  unfold EP
  simp only[EZ,ah,Nat.reduceAdd,Nat.reduceBEq,zw,L0]
  refine bD aF mixed [] (fun k:Nat=>k≤i) (fun k=>i-k)
    (fun k=>pd a0 (.str w) (.int .i64 l.length) (.int .i64 k) ([]:List (List AV)) h) 0 (by omega) ⟨by simp[pd,cj,ck],rfl,rfl⟩ ?_
  rintro k hk
  have lt:((k:Nat):Int)<((l.length:Nat):Int):=by omega
  have i1:=i0 k (by omega)
  by_cases e:k=i
  · subst e
    have ew:w=l[k]:=he.symm
    simp only[EZ,ah,Nat.reduceAdd,Nat.reduceBEq,zw,pd,EB,bo,decide_eq_true lt,i1,bB,decide_eq_true ew]
    first|exact⟨rfl,rfl⟩|exact rfl
  have ne:¬w=l[k]:=fun e2=>hf k (by omega) e2.symm
  simp only[EZ,ah,Nat.reduceAdd,Nat.reduceBEq,zw,pd,EB,bo,decide_eq_true lt,i1,bB,decide_eq_false ne]
  exact⟨k+1,by omega,by omega,⟨by rw[wN (by omega)];simp[pd,cj,ck],rfl,rfl⟩⟩
theorem It(n:Int)(h:AH):T Tryz.prog Γ Fn.KN [.int .i64 n] h fun v h'=>v=.bool (decide (n = -1))∧h'=h:=by
  refine Nh (au aF mixed [] _ _ _ ?_)
  unfold IK
  simp only[EZ,ah,Nat.reduceAdd,Nat.reduceBEq,Gd,bo,aE]
  first|exact⟨rfl,rfl⟩|exact rfl|trivial
structure Wd (h H:AH) (q:Nat) (ws:List ByteArray) (w:AV) (fp:List Nat):Prop where
  box:bA H q=some (0,[w])
  own:bO H w (iw ws) fp
  nd:fp.Nodup
  qf:q∉fp
  fr:∀c∈fp,h.length≤c
  ql:h.length≤q
  ex:∃N,H=h++N
theorem Wd.push{h H:AH}{q:Nat}{ws:List ByteArray}{w:AV}{fp:List Nat}(W:Wd h H q ws w fp)(s:ByteArray)(hl:ws.length≤1000):
    ∃w' H1 H2 fp',(∀e l,lK ⟨e,l,H++[some (0,[.str s])]⟩ 1 16 w (cH ⟨e,l,H++[some (0,[.str s])]⟩ 1 false (.gs H.length 0 0 1 1 1 true)) (lenOf (.gs H.length 0 0 1 1 1 true)) (lenOf w)=.val w' ⟨e,l,H1⟩)∧
      (∀(e:List AV) (L:List (List AV)),(St.mk e L H1).store (.gp q 0 0) [w']=some ⟨e,L,H2⟩)∧cellsOf w'=some [w']∧b8 w'=true∧bk w'=true∧Wd h H2 q (ws++[s]) w' fp'∧H1[q]? = H[q]?∧
      (∀c,c<H.length→c∉fp→c≠q→H2[c]? = H[c]?)∧H.length≤H2.length∧∀c∈fp',c∈fp∨H.length≤c:=by
  obtain⟨box,own,nd,qf,fr,ql,N,hN⟩:=W
  have hq:q<H.length:=dd box
  obtain⟨w',H1,fp',ea,o',nd',hf',hl',hm'⟩:=dz (bytes:=16) own (ys:=[.str s]) (row:=[.s s]) (f2:=[]) (by simpa using nd) (by omega) rfl (.s .nil) (by simp only[List.length_map,aX];omega)
  have hm2:∀c∈fp',c∈fp∨H.length≤c:=fun c hc=>by
    rcases hm' c hc with g|g|g
    · exact .inl g
    · cases g
    · exact .inr g
  have hq1:H1[q]? = H[q]?:=hf' q qf hq
  have hb1:bA H1 q=some (0,[w]):=by rw[dJ hq1];exact box
  obtain⟨c1,c2,c3,c4⟩:=o'.cell
  have qn:q∉fp':=fun hc=>by
    rcases hm2 q hc with g|g
    · exact qf g
    · omega
  refine⟨w',H1,H1.set q (some (0,[w'])),fp',ea,fun e L=>?_,c1,c2,c3,⟨?_,?_,nd',qn,fun c hc=>?_,ql,?_⟩,hq1,fun c h1 h2 h3=>?_,by simpa using hl',hm2⟩
  · simp only[St.store,hb1,Option.bind_some,if_true]
    simp[c3,over]
  · have:q<H1.length:=by omega
    simp[bA,this]
  · have:iw (ws++[s])=.sl 1 (ws.map (fun n=>[CD.s n])++[[.s s]]):=by simp[iw]
    rw[this]
    exact o'.frame fun c hc=>List.getElem?_set_ne (fun e:q=c=>qn (e▸hc))
  · rcases hm2 c hc with g|g
    · exact fr c g
    · omega
  · subst hN
    obtain⟨N',rfl⟩:=vb hl' (fun c h1 h2=>hf' c h1 h2) fr
    refine⟨N'.set (q-h.length) (some (0,[w'])),?_⟩
    rw[List.set_append_right _ _ ql]
  · rw[List.getElem?_set_ne (Ne.symm h3)];exact hf' c h2 h1
theorem Wd.rd{h H:AH}{q:Nat}{ws:List ByteArray}{w:AV}{fp:List Nat}(W:Wd h H q ws w fp)(e:List AV)(L:List (List AV)):(St.mk e L H).cells (.gp q 0 0) 1=some [w]:=by
  simp only[St.cells,W.box,Option.bind_some,if_true];rfl
set_option maxHeartbeats 4000000 in
theorem eN(hΓ:ik Γ)(l:List Int)(hl:l.length≤100)(hi:∀n∈l,i64 n){b g cap:Nat}{ex:Bool}{tail:List AV}{h H:AH}{q:Nat}{ws:List ByteArray}{w:AV}{fp:List Nat}(W:Wd h H q ws w fp)(hw:ws.length≤500)(hb:bA H b=some (g,l.map (AV.int .i64)++tail))(hc:l.length≤cap)(bq:b≠q)(bf:b∉fp):
    T Tryz.prog Γ Fn.WK [.gs b g 0 l.length cap 1 ex,.gp q 0 0] H fun v H'=>v=.tup []∧∃w' fp',Wd h H' q (ws++l.map bp) w' fp'∧(∀c,c<H.length→c∉fp→c≠q→H'[c]? = H[c]?)∧H.length≤H'.length∧∀c∈fp',c∈fp∨H.length≤c:=by
  have hbl:=dd hb
  refine NP (au aF mixed [] _ _ _ ?_)
  unfold I2
  have lg:fu false (.gs b g 0 l.length cap 1 ex)=some (.int .i64 l.length):=rfl
  simp only[EZ,ah,Nat.reduceAdd,Nat.reduceBEq,sP,jH,EB,lg]
  refine bD aF mixed [] (fun x:Nat×AV×AH×List Nat=>x.1≤l.length∧Wd h x.2.2.1 q (ws++(l.take x.1).map bp) x.2.1 x.2.2.2∧(∀c,c<H.length→c∉fp→c≠q→x.2.2.1[c]? = H[c]?)∧H.length≤x.2.2.1.length∧∀c∈x.2.2.2,c∈fp∨H.length≤c) (fun x=>l.length-x.1)
    (fun x=>vu (.gp q 0 0) (.gs b g 0 l.length cap 1 ex) (.int .i64 l.length) (.int .i64 x.1) ([]:List (List AV)) x.2.2.1) (0,w,H,fp) ⟨by omega,by simpa using W,fun _ _ _ _=>rfl,Nat.le_refl _,fun c hc=>.inl hc⟩ ⟨by simp[vu,cj,ck],rfl,rfl⟩ ?_
  rintro⟨k,w1,H1,f1⟩ ⟨hk,W1,fr1,hl1,m1⟩
  simp only at hk W1 fr1 hl1 m1
  simp only[EZ,ah,Nat.reduceAdd,Nat.reduceBEq,sP,jH,vu,EB]
  refine ba (fun hlt=>?_) (fun hge=>?_)
  rotate_left
  · have:k=l.length:=by simp at hge;omega
    subst this
    rw[List.take_length]at W1
    simp only[EZ,ah,Nat.reduceAdd,Nat.reduceBEq,sP,jH,EB]
    exact⟨rfl,rfl,w1,f1,W1,fr1,hl1,m1⟩
  have hlt:k<l.length:=by simpa using hlt
  have hb1:bA H1 b=some (g,l.map (AV.int .i64)++tail):=by rw[dJ (fr1 b hbl bf bq)];exact hb
  have i1:cm 1 (.gs b g 0 l.length cap 1 ex) (k:Int)=some (.gp b g k):=by rw[fo hlt,Nat.zero_add,Nat.mul_one]
  have ld:∀(e:List AV) (L:List (List AV)),(St.mk e L H1).cells (.gp b g k) 1=some [.int .i64 l[k]]:=fun e L=>by
    rw[ee hb1]
    simp only[sub]
    rw[if_pos (by simp;omega),List.drop_append_of_le_length (by simp;omega),List.drop_eq_getElem_cons (by simpa using hlt)]
    simp
  have hfi:=fun h=>M0 hΓ.itoa l[k] (hi _ (List.getElem_mem hlt)) h
  have rd:=W1.rd
  obtain⟨c1,c2,c3,c4⟩:=W1.own.cell
  obtain⟨w2,H2,H3,f2,ea,st,d1,d2,d3,W2,hq,fr2,hl2,m2⟩:=W1.push (bp l[k]) (by simp;omega)
  simp only[EZ,ah,Nat.reduceAdd,Nat.reduceBEq,sP,jH,EB,i1,ld,rd,c1,c2,c3]
  refine aq.val (by simp only[EO]) (hfi _) ?_
  simp only[EZ,ah,Nat.reduceAdd,Nat.reduceBEq,sP,jH,EB,EA,rd,c1,c2,c3,ea,d1,d2,d3,st]
  refine⟨(k+1,w2,H3,f2),⟨hlt,?_,fun c h1 h2 h3=>?_,by simp only;omega,fun c hc=>?_⟩,by simp only;omega,⟨by rw[wN (by omega)];simp[vu,cj,ck],rfl,rfl⟩⟩
  · simp only
    rw[List.take_succ_eq_append_getElem hlt,List.map_append,←List.append_assoc];exact W2
  · rw[fr2 c (by omega) (fun hc=>by
      rcases m1 c hc with e|e
      · exact h2 e
      · omega) h3]
    exact fr1 c h1 h2 h3
  · rcases m2 c hc with e|e
    · exact m1 c e
    · exact .inr (by omega)
def tt(l:List Int):List Int:=l.filter fun n=>!decide (n = -1)
theorem Cj{H:AH}{b g:Nat}{c d:Int}(hb:bA H b=some (g,[.int .i64 c,.int .i64 d])):bO H (.gs b g 0 2 2 1 true) (.sl 1 ([c,d].map fun n=>[.i .i64 n])) [b]:=by
  have:=bO.sl_mk (h:=H) (b:=b) (g:=g) (cap:=2) (sz:=1) (ex:=true) (zas:=[.int .i64 c,.int .i64 d]) (tail:=[]) (xs:=[c,d].map fun n=>[.i .i64 n]) (fp:=[]) (by simpa using hb) (fun y hy=>by obtain⟨x,_,rfl⟩:=List.mem_map.1 hy;rfl) (by simp) (by simp) (.i (.i .nil))
  simpa using this
set_option maxHeartbeats 4000000 in
theorem xV(c d:Int)(hcd:c = -1→d = -1){H:AH}{b g:Nat}(hb:bA H b=some (g,[.int .i64 c,.int .i64 d])):
    T Tryz.prog Γ Fn.Wc [.gs b g 0 2 2 1 true,.fn Fn.KN [] []] H fun v H'=>v=.gs b g 0 (tt [c,d]).length 2 1 true∧(∃tail,bA H' b=some (g,(tt [c,d]).map (AV.int .i64)++tail))∧H'.length=H.length∧∀x,x≠b→H'[x]? = H[x]?:=by
  have o:=Cj hb
  have hbl:=dd hb
  have hidx:∀h,T Tryz.prog Γ Fn.Wk [.vs true 1 false ([c,d].map fun n=>[.int .i64 n]),.fn Fn.KN [] []] h fun v h'=>v=.int .i64 (jx (fun n=>decide (n = -1)) [c,d])∧h'=h:=fun h=>
    fG (P:=Tryz.prog) (Γ:=Γ) aF mixed (sz:=1) (agg:=false) (fun hw=>Su hw) (β:=true) (l:=[c,d]) (c:=fun n=>[.int .i64 n]) (by simp) (fun x=>by simp[KD,UB,bX,bk]) (g:=Fn.KN) (first:=[]) (caps:=[]) rfl (fun n=>decide (n = -1)) (h:=h) (fun x hx=>It x _)
  have jE:gU H (.gs b g 0 2 2 1 true) (.vs true 1 false ([c,d].map fun n=>[.int .i64 n])):=bO.jE (c:=fun n:Int=>[.int .i64 n]) (cd:=fun n:Int=>[CD.i .i64 n]) (fun n=>by simp[CD.dD]) o
  refine L8 (au aF mixed [] _ _ _ ?_)
  unfold Jw
  simp only[EZ,ah,Nat.reduceAdd,Nat.reduceBEq,nH]
  refine aq.jE (by simp only[EO,bX,bk,cB,List.all_nil,Bool.and_self]) (bY jE (bY (.same _) dR)) hidx (.int _ _) ?_
  by_cases hd:d = -1
  rotate_left
  · have hc:¬c = -1:=fun h=>hd (hcd h)
    have e:jx (fun n=>decide (n = -1)) [c,d] = -1:=by simp[jx,List.findIdx?,List.findIdx?.go,hc,hd]
    have ef:tt [c,d]=[c,d]:=by simp[tt,hc,hd]
    rw[e,ef]
    simp only[EZ,ah,Nat.reduceAdd,Nat.reduceBEq,nH,bo,show((-1:Int) == -1)=true from rfl]
    first|exact⟨rfl,rfl,⟨[],by simpa using hb⟩,fun _ _=>trivial⟩|exact⟨rfl,rfl,⟨[],by simpa using hb⟩,rfl,fun _ _=>rfl⟩|exact⟨rfl,⟨[],by simpa using hb⟩,rfl,fun _ _=>rfl⟩|exact⟨⟨[],by simpa using hb⟩,rfl,fun _ _=>rfl⟩
  have key:∃i:Nat,i<2∧jx (fun n=>decide (n = -1)) [c,d]=(i:Int)∧(tt [c,d]).length=i∧∃t,[AV.int .i64 c,.int .i64 d]=(tt [c,d]).map (AV.int .i64)++t∧t.length=2-i:=by
    by_cases hc:c = -1
    · exact⟨0,by omega,by simp[jx,List.findIdx?,List.findIdx?.go,hc],by simp[tt,hc,hd],[AV.int .i64 c,.int .i64 d],by simp[tt,hc,hd],rfl⟩
    · exact⟨1,by omega,by simp[jx,List.findIdx?,List.findIdx?.go,hc,hd],by simp[tt,hc,hd],[.int .i64 d],by simp[tt,hc,hd],rfl⟩
  obtain⟨i,hi,e1,e2,t,e3,e4⟩:=key
  rw[e1,e2]
  have hkm:((i:Int) == -1)=false:=beq_eq_false_iff_ne.2 (by omega)
  have hw1:IntKind.i64.wrap ((i:Int)+1)=((i+1:Nat):Int):=wN (by omega)
  have lg:fu false (.gs b g 0 2 2 1 true)=some (.int .i64 2):=rfl
  simp only[EZ,ah,Nat.reduceAdd,Nat.reduceBEq,nH,bo,hkm]
  rw[hw1]
  refine bD aF mixed [] (fun x:Nat=>i<x∧x≤2) (fun x=>2-x)
    (fun x=>uz (.gs b g 0 2 2 1 true) (.fn Fn.KN [] []) (.int .i64 i) (.int .i64 x) ([]:List (List AV)) H) (i+1) ⟨by omega,by omega⟩ ⟨by simp[uz,cj,ck],rfl,rfl⟩ ?_
  rintro j ⟨j1,j2⟩
  simp only[EZ,ah,Nat.reduceAdd,Nat.reduceBEq,nH,uz,lg]
  refine ba (fun hlt=>?_) (fun hge=>?_)
  · have:j=1:=by simp at hlt;omega
    subst this
    have i1:cm 1 (.gs b g 0 2 2 1 true) ((1:Nat):Int)=some (.gp b g 1):=rfl
    have ld:∀(e:List AV) (L:List (List AV)),(St.mk e L H).cells (.gp b g 1) 1=some [.int .i64 d]:=fun e L=>by rw[ee hb];rfl
    simp only[EZ,ah,Nat.reduceAdd,Nat.reduceBEq,nH,i1,ld]
    refine aq.val (by simp only[EO]) (It d _) ?_
    simp only[EZ,ah,Nat.reduceAdd,Nat.reduceBEq,nH,decide_eq_true hd]
    exact⟨2,⟨by omega,by omega⟩,by omega,⟨by rw[wN (by omega)];simp[uz,cj,ck],rfl,rfl⟩⟩
  · have hcf:=fun S:St=>Ae S (b:=b) (g:=g) (len:=2) (cap:=2) (sz:=1) (ex:=true) (i:=i) (by omega) (by omega)
    have hct:=fun S:St=>DS S (b:=b) (g:=g) (len:=2) (cap:=2) (sz:=1) (ex:=true) (i:=i) (by omega)
    have hcl:∀(e:List AV) (L:List (List AV)),xm ⟨e,L,H⟩ 1 [.int .i64 0] (.gs b g (i*1) (2-i) (2-i) 1 true)=some ⟨e,L,H.set b (some (g,(tt [c,d]).map (AV.int .i64)++List.replicate (2-i) (.int .i64 0)))⟩:=fun e L=>by
      have h0:¬(2-i=0):=by omega
      simp only[xm,if_neg h0,if_true,St.store,hb,Option.bind_some]
      rcases(show i=0∨i=1 by omega)with rfl|rfl
      · rw[List.length_eq_zero_iff.1 e2];rfl
      · obtain⟨x,ex⟩:=List.length_eq_one_iff.1 e2
        rw[ex]at e3 ⊢
        injection e3 with e5 _
        rw[e5];rfl
    simp only[EZ,ah,Nat.reduceAdd,Nat.reduceBEq,nH,ke,uU,Sg,hcf,hct,hcl,AR.AG]
    exact⟨rfl,⟨List.replicate (2-i) (.int .i64 0),by simp[bA,hbl]⟩,by simp,fun x hx=>List.getElem?_set_ne (Ne.symm hx)⟩
theorem I8(c d:Int)(hcd:c = -1→d = -1){H:AH}{b g:Nat}(hb:bA H b=some (g,[.int .i64 c,.int .i64 d])):
    T Tryz.prog Γ Fn.UP [.gs b g 0 2 2 1 true] H fun v H'=>v=.gs b g 0 (tt [c,d]).length 2 1 true∧(∃tail,bA H' b=some (g,(tt [c,d]).map (AV.int .i64)++tail))∧H'.length=H.length∧∀x,x≠b→H'[x]? = H[x]?:=by
  refine OS (au aF mixed [] _ _ _ ?_)
  unfold Fh
  simp only[EZ,ah,Nat.reduceAdd,Nat.reduceBEq,Cx]
  refine aq.ref (by simp only[EO,bX,bk,cB,List.all_nil,Bool.and_self]) (xV c d hcd hb) ?_
  rintro _ H' ⟨rfl,h1,h2,h3⟩
  simp only[EZ,ah,Nat.reduceAdd,Nat.reduceBEq,Cx]
  first|exact⟨rfl,rfl,h1,h2,h3⟩|exact⟨rfl,h1,h2,h3⟩|exact⟨h1,h2,h3⟩
end Go.Proofs.YtdlbaonelfcahaaGreatDoor
