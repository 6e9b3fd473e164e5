import Derived.Test.YtkepagpkphgpeaaGreatDoorR6G13
import Derived.Test.YtkepagpkphgpeaaGreatDoorCodePatternLibrary
import Derived.Test.YtkepagpkphgpeaaGreatDoorAmG9
import Derived.Shelf.Strings.Replace
import Derived.Shelf.Strings.Cut
import Derived.Shelf.Strings.BuilderK
import Derived.Shelf.Strings.OnBuilder
import Derived.Shelf.Strings.Split
import Derived.Test.YtkepagpkphgpeaaGreatDoorAmG10
import Derived.Test.YtkepagpkphgpeaaGreatDoorAmG8
set_option linter.unusedVariables false
set_option linter.unusedSimpArgs false
namespace Go.Proofs.YtkepagpkphgpeaaGreatDoor
open Go.AM
variable {Γ:aZ}
theorem T.yes{f:FuncId}{args:List AV}{h:AH}{b:Bool}(t:T Tryz.prog Γ f args h fun v h'=>v=.bool b∧∃N,h'=h++N):T Tryz.prog Γ f args h fun v h'=>v=.bool b∧h'=h:=by
  have:=T.frozen (rs:=[.c (.b b)]) (t.fresh (by
    rintro v h' ⟨rfl,N,rfl⟩
    exact⟨[.bool b],N,[],rfl,rfl,⟨[],[],rfl,.b _,rfl⟩,List.nodup_nil,by simp⟩))
  exact this.mono fun v h' ⟨h1,h2⟩=>⟨by simpa[gu,RD.av,CD.av]using h1,h2⟩
theorem Fz(β:Bool)(x y:ah)(ne:¬x.name=y.name)(H:AH){p:AV}(hp:Ptr H p (y.c β)):T Tryz.prog Γ Fn.Dc [.agg (x.c β),p] H fun v h'=>v=.bool false∧h'=H:=by
  have hc:∀(e:List AV) (l:List (List AV)),(St.mk e l H).cells (ss p 0) 1=some [.str y.name]:=fun e l=>hp.rd e l 0 0 (by simp[ah.c])
  refine Fp (ax aB mixed [] _ _ _ ?_)
  unfold zt
  simp only[EZ,ag,Nat.reduceAdd,Nat.reduceBEq,AJ,EB,aT,ah.c,hp.fld,hp.nil,aQ,hc,decide_eq_false ne]
  first|exact⟨rfl,rfl⟩|exact rfl|trivial
theorem qt(β:Bool)(l:List ah)(hl:l.length≤1000)(y:ah)(ne:∀x∈l,¬x.name=y.name)(H:AH){p:AV}(hp:Ptr H p (y.c β))(ho:bF p=true):T Tryz.prog Γ Fn.Jr [.vs β 2 false (l.map (ah.c β)),.fn Fn.Dc [] [p]] H fun v h'=>v=.bool false∧h'=H:=by
  have hidx:T Tryz.prog Γ Fn.I0 [.vs β 2 false (l.map (ah.c β)),.fn Fn.Dc [] [p]] H fun v h'=>v=.int .i64 (-1)∧h'=H:=by
    rw[←sx l]
    exact fg (P:=Tryz.prog) (Γ:=Γ) aB mixed (sz:=2) (agg:=true) (fun hw=>Eo hw) (β:=β) (l:=l) (c:=ah.c β) (by omega) (fun x=>⟨⟨rfl,.inl rfl⟩,rfl⟩) (g:=Fn.Dc) (first:=[]) (caps:=[p]) (by simp[ho]) (fun _=>false) (h:=H) (fun x hx=>Fz β x y (ne x hx) H hp)
  have ot:bF (AV.vs β 2 false (l.map (ah.c β)))=true:=rfl
  have of:bF (AV.fn Fn.Dc [] [p])=true:=by simp[bF,aK,hp.n1]
  refine Hw (ax aB mixed [] _ _ _ ?_)
  unfold BF
  simp only[EZ,ag,Nat.reduceAdd,Nat.reduceBEq,vq]
  refine an.val (by simp only[EO,ot,of]) hidx ?_
  simp only[EZ,ag,Nat.reduceAdd,Nat.reduceBEq,vq]
  first|exact⟨rfl,rfl⟩|exact rfl|trivial
set_option maxHeartbeats 8000000 in
theorem HQ(β:Bool)(s:ae)(hs:sF s=true)(ok:s.ok 1000000)(h:AH):T Tryz.prog Γ Fn.IB [.agg (s.c β)] h fun v h'=>v=.bool true∧h'=h:=by
  simp only[sF,Bool.and_eq_true,List.all_eq_true,decide_eq_true_eq]at hs
  obtain⟨m1,m2,m3,m4⟩:=hs
  have L0:=cr β 2 false s.methods (ah.c β)
  have i0:=fun k hk=>ct (β:=β) (sz:=2) (ex:=false) (l:=s.methods) (ce:=ah.c β) (k:=k) hk
  have hn:=fun h=>xA (Γ:=Γ) s.name (by have:=ok.1;omega) m3 h
  have hgt:¬((s.methods.length:Nat):Int)>4:=by omega
  refine T.yes ?_
  refine DN (ax aB mixed [4] _ _ _ ?_)
  unfold Bm
  simp only[EZ,ag,Nat.reduceAdd,Nat.reduceBEq,jS,EB,ae.c]
  refine an.val (by simp only[EO]) (hn _) ?_
  simp only[EZ,ag,Nat.reduceAdd,Nat.reduceBEq,jS,EB,L0,decide_eq_false hgt]
  have tc:∀k,k≤s.methods.length→∀(S:St),ig (.sl 2) S (.vs β 2 false (s.methods.map (ah.c β))) (.int .i64 (k:Int))=.val (.vs β 2 false ((s.methods.take k).map (ah.c β))) S:=fun k hk S=>by
    have e:fG (.int .i64 (k:Int))=some k:=by simp[fG,rQ]
    simp only[ig,e,db]
    simp[hk,AR.cZ,List.map_take]
  refine bU aB mixed [4] (fun x:Nat×AH=>x.1≤s.methods.length∧∃N,x.2=h++N) (fun x=>s.methods.length-x.1)
    (fun x=>mi (.lp ([]:List (List AV)).length 0) (.vs β 2 false (s.methods.map (ah.c β))) (.int .i64 s.methods.length) (.int .i64 x.1) (([]:List (List AV))++[s.c β]) x.2) (0,h) ⟨by omega,[],by simp⟩ ⟨by simp[mi,cG,cI,ae.c],rfl,rfl⟩ ?_
  rintro⟨k,H⟩ ⟨hk,N,rfl⟩
  simp only at hk
  simp only[EZ,ag,Nat.reduceAdd,Nat.reduceBEq,jS,mi,EB,ae.c]
  refine aR (fun hlt=>?_) (fun hge=>?_)
  rotate_left
  · simp only[EZ,ag,Nat.reduceAdd,Nat.reduceBEq,jS,EB]
    first|exact⟨rfl,rfl,_,rfl⟩|exact⟨rfl,_,rfl⟩|exact⟨_,rfl⟩
  have hlt:k<s.methods.length:=by simpa using hlt
  have i1:=i0 k hlt
  have al:=fun(s:St)=>pD s _ (show List.all [AV.str ⟨#[]⟩,.nils] aK=true from rfl)
  have sto:∀(e:List AV) (L:List (List AV)),(St.mk e L ((h++N)++[some (0,[AV.str ⟨#[]⟩,.nils])])).store (.gp (h++N).length 0 0) (s.methods[k].c β)=some ⟨e,L,(h++N)++[some (0,s.methods[k].c β)]⟩:=fun e L=>by
    rw[iq (by simp[ah.c]) rfl];rfl
  have hlast:aS ((h++N)++[some (0,s.methods[k].c β)]) (h++N).length=some (0,s.methods[k].c β):=bx _ _
  have cl:=fun(e:List AV) (L:List (List AV)) (off n:Nat)=>sw (e:=e) (l:=L) (h:=h++N) (cs:=s.methods[k].c β) (off:=off) (n:=n)
  have hp:Ptr ((h++N)++[some (0,s.methods[k].c β)]) (.gp (h++N).length 0 0) (s.methods[k].c β):=Ptr.J8 hlast
  have hm:=fun h=>Es (Γ:=Γ) β s.methods[k] (m1 _ (List.getElem_mem hlt)) (ok.2.2 _ (List.getElem_mem hlt)) h
  have tk:=tc k (by omega)
  have hsc:=qt (Γ:=Γ) β (s.methods.take k) (by rw[List.length_take];omega) s.methods[k] (fun x hx=>by
    obtain⟨i,hi,rfl⟩:=List.mem_take_iff_getElem.1 hx
    exact tG m2 hlt (by omega)) ((h++N)++[some (0,s.methods[k].c β)]) hp rfl
  simp only[ah.c]at sto cl hm hsc
  simp only[EZ,ag,Nat.reduceAdd,Nat.reduceBEq,jS,EB,i1,ah.c,al,eG,sto,cl]
  refine an.val (by simp only[EO]) (hm _) ?_
  simp only[EZ,ag,Nat.reduceAdd,Nat.reduceBEq,jS,EB,tk]
  refine an.val (by simp only[EO,bF,aK,bW,List.all_cons,List.all_nil,Bool.and_self]) hsc ?_
  simp only[EZ,ag,Nat.reduceAdd,Nat.reduceBEq,jS,EB]
  exact⟨(k+1,(h++N)++[some (0,[AV.str s.methods[k].name,AV.vs β 6 false (s.methods[k].code.map (aj.c β))])]),⟨hlt,N++[some (0,[AV.str s.methods[k].name,AV.vs β 6 false (s.methods[k].code.map (aj.c β))])],by simp⟩,by simp only;omega,⟨by rw[wN (by omega)];simp[mi,cG,cI],by simp[ae.c,mi,cG],rfl⟩⟩
theorem DP(β:Bool)(x:ae)(nm:ByteArray)(ne:¬x.name=nm)(H:AH){p:AV}(hp:Ptr H p [.str nm]):T Tryz.prog Γ Fn.D7 [.agg (x.c β),p] H fun v h'=>v=.bool false∧h'=H:=by
  have hc:∀(e:List AV) (l:List (List AV)),(St.mk e l H).cells p 1=some [.str nm]:=fun e l=>hp.rd0 e l 0 (by simp)
  refine GH (ax aB mixed [] _ _ _ ?_)
  unfold AG
  simp only[EZ,ag,Nat.reduceAdd,Nat.reduceBEq,BR,EB,aT,ae.c,aQ,hc,decide_eq_false ne]
  first|exact⟨rfl,rfl⟩|exact rfl|trivial
theorem Ez(β:Bool)(l:List ae)(hl:l.length≤1000)(nm:ByteArray)(ne:∀x∈l,¬x.name=nm)(h:AH):T Tryz.prog Γ Fn.Iq [.vs β 2 false (l.map (ae.c β)),.str nm] h fun v h'=>v=.int .i64 (-1)∧∃N,h'=h++N:=by
  have ot:bF (AV.vs β 2 false (l.map (ae.c β)))=true:=rfl
  have hp:Ptr (h++[some (0,[.str nm])]) (.gp h.length 0 0) [.str nm]:=Ptr.J8 (bx _ _)
  have hidx:T Tryz.prog Γ Fn.Jw [.vs β 2 false (l.map (ae.c β)),.fn Fn.D7 [] [.gp h.length 0 0]] (h++[some (0,[.str nm])]) fun v h'=>v=.int .i64 (-1)∧h'=h++[some (0,[.str nm])]:=by
    rw[←sx l]
    exact fg (P:=Tryz.prog) (Γ:=Γ) aB mixed (sz:=2) (agg:=true) (fun hw=>HV hw) (β:=β) (l:=l) (c:=ae.c β) (by omega) (fun x=>⟨⟨rfl,.inl rfl⟩,rfl⟩) (g:=Fn.D7) (first:=[]) (caps:=[.gp h.length 0 0]) rfl (fun _=>false) (h:=h++[some (0,[.str nm])]) (fun x hx=>DP β x nm (ne x hx) _ hp)
  refine Ek (ax aB mixed [3] _ _ _ ?_)
  unfold AX
  simp only[EZ,ag,Nat.reduceAdd,Nat.reduceBEq,wI,EB,Er _ _ (show List.all [AV.str nm] aK=true from rfl),eG]
  refine an.val (by simp only[EO,ot,bF,aK,bW,List.all_cons,List.all_nil,Bool.and_self]) hidx ?_
  simp only[EZ,ag,Nat.reduceAdd,Nat.reduceBEq,wI,EB]
  first|exact⟨rfl,rfl,_,rfl⟩|exact⟨rfl,_,rfl⟩|exact⟨_,rfl⟩
theorem T.IY{f:FuncId}{args:List AV}{h:AH}{n:Int}(t:T Tryz.prog Γ f args h fun v h'=>v=.int .i64 n∧∃N,h'=h++N):T Tryz.prog Γ f args h fun v h'=>v=.int .i64 n∧h'=h:=by
  have:=T.frozen (rs:=[.c (.i .i64 n)]) (t.fresh (by
    rintro v h' ⟨rfl,N,rfl⟩
    exact⟨[.int .i64 n],N,[],rfl,rfl,⟨[],[],rfl,.i _ _,rfl⟩,List.nodup_nil,by simp⟩))
  exact this.mono fun v h' ⟨h1,h2⟩=>⟨by simpa[gu,RD.av,CD.av]using h1,h2⟩
set_option maxHeartbeats 8000000 in
theorem BQ(β:Bool)(l:List ae)(hb:uL l=true)(ok:∀s∈l,s.ok 1000000)(h:AH):T Tryz.prog Γ Fn.I8 [.vs β 2 false (l.map (ae.c β))] h fun v h'=>v=.bool true∧h'=h:=by
  obtain⟨b1,b2,b3⟩:=sq hb
  have L0:=cr β 2 false l (ae.c β)
  have i0:=fun k hk=>ct (β:=β) (sz:=2) (ex:=false) (l:=l) (ce:=ae.c β) (k:=k) hk
  have hgt:¬((l.length:Nat):Int)>6:=by omega
  have tc:∀k,k≤l.length→∀(S:St),ig (.sl 2) S (.vs β 2 false (l.map (ae.c β))) (.int .i64 (k:Int))=.val (.vs β 2 false ((l.take k).map (ae.c β))) S:=fun k hk S=>by
    have e:fG (.int .i64 (k:Int))=some k:=by simp[fG,rQ]
    simp only[ig,e,db]
    simp[hk,AR.cZ,List.map_take]
  have ff:=fun k (hk:k<l.length) h=>T.IY (Ez (Γ:=Γ) β (l.take k) (by rw[List.length_take];omega) l[k].name (fun x hx=>by
    obtain⟨i,hi,rfl⟩:=List.mem_take_iff_getElem.1 hx
    exact b3 k i hk (by omega)) h)
  have ot:∀l:List ae,bF (AV.vs β 2 false (l.map (ae.c β)))=true:=fun l=>rfl
  generalize e0:AV.vs β 2 false (l.map (ae.c β))=a0 at *
  refine HY (ax aB mixed [] _ _ _ ?_)
  unfold zP
  simp only[EZ,ag,Nat.reduceAdd,Nat.reduceBEq,lk,fT,EB,L0,decide_eq_false hgt]
  refine bU aB mixed [] (fun x:Nat×List (List AV)=>x.1≤l.length) (fun x=>l.length-x.1)
    (fun x=>pX a0 a0 (.int .i64 l.length) (.int .i64 x.1) x.2 h) (0,([]:List (List AV))) (by omega) ⟨by simp[pX,cG,cI],rfl,rfl⟩ ?_
  rintro⟨k,L⟩ hk
  simp only at hk
  simp only[EZ,ag,Nat.reduceAdd,Nat.reduceBEq,lk,fT,pX,EB]
  refine aR (fun hlt=>?_) (fun hge=>?_)
  rotate_left
  · simp only[EZ,ag,Nat.reduceAdd,Nat.reduceBEq,lk,fT,EB]
    first|exact⟨rfl,rfl⟩|exact rfl|trivial
  have hlt:k<l.length:=by simpa using hlt
  have i1:=i0 k hlt
  have hs:=fun h=>HQ (Γ:=Γ) β l[k] (b1 _ (List.getElem_mem hlt)) (ok _ (List.getElem_mem hlt)) h
  have tk:=tc k (by omega)
  simp only[ae.c]at hs
  simp only[EZ,ag,Nat.reduceAdd,Nat.reduceBEq,lk,fT,EB,i1,ae.c]
  refine an.val (by simp only[EO]) (hs _) ?_
  simp only[EZ,ag,Nat.reduceAdd,Nat.reduceBEq,lk,fT,EB,tk]
  refine an.val (by simp only[EO,ot]) (ff k hlt _) ?_
  simp only[EZ,ag,Nat.reduceAdd,Nat.reduceBEq,lk,fT,EB,show decide ((0:Int)≤-1)=false from rfl]
  exact⟨(k+1,_),hlt,by simp only;omega,⟨by rw[wN (by omega)];simp[pX,cG,cI],rfl,rfl⟩⟩
end Go.Proofs.YtkepagpkphgpeaaGreatDoor
namespace Go.Proofs.YtkepagpkphgpeaaGreatDoor
open Go.AM Go.Shelf
def sv:Ren:=⟨fun|171=>108|243=>117|246=>119|283=>120|284=>121|285=>122|286=>123|129=>125|317=>124|318=>126|319=>127|320=>128|337=>129|338=>130|n=>n,fun|3=>3|9=>9|2=>2|4=>4|171=>139|0=>0|53=>116|37=>54|5=>5|173=>142|212=>145|51=>125|20=>20|213=>146|46=>114|232=>149|233=>150|n=>n,fun|17=>6|18=>7|19=>8|n=>n⟩
theorem CY:LaysM.n171 Tryz.prog sv:={
  mixed:=by kernel_rfl
  f129:=Tryz.func125.trans (congrArg some (by kernel_rfl))
  f171:=Tryz.func108.trans (congrArg some (by kernel_rfl))
  f243:=Tryz.func117.trans (congrArg some (by kernel_rfl))
  f246:=Tryz.func119.trans (congrArg some (by kernel_rfl))
  f283:=Tryz.func120.trans (congrArg some (by kernel_rfl))
  f284:=Tryz.func121.trans (congrArg some (by kernel_rfl))
  f285:=Tryz.func122.trans (congrArg some (by kernel_rfl))
  f286:=Tryz.func123.trans (congrArg some (by kernel_rfl))
  f317:=Tryz.func124.trans (congrArg some (by kernel_rfl))
  f318:=Tryz.func126.trans (congrArg some (by kernel_rfl))
  f319:=Tryz.func127.trans (congrArg some (by kernel_rfl))
  f320:=Tryz.func128.trans (congrArg some (by kernel_rfl))
  f337:=Tryz.func129.trans (congrArg some (by kernel_rfl))
  f338:=Tryz.func130.trans (congrArg some (by kernel_rfl))
  t0:=Tryz.underlying0
  a0:=Tryz.isAgg0
  z0:=Tryz.sizeOf0
  v0:=Tryz.zeroValue0
  t2:=Tryz.underlying2
  a2:=Tryz.isAgg2
  z2:=Tryz.sizeOf2
  v2:=Tryz.zeroValue2
  t3:=Tryz.underlying3
  a3:=Tryz.isAgg3
  z3:=Tryz.sizeOf3
  v3:=Tryz.zeroValue3
  t4:=Tryz.underlying4
  a4:=Tryz.isAgg4
  z4:=Tryz.sizeOf4
  v4:=Tryz.zeroValue4
  t5:=Tryz.underlying5
  a5:=Tryz.isAgg5
  z5:=Tryz.sizeOf5
  v5:=Tryz.zeroValue5
  t9:=Tryz.underlying9
  a9:=Tryz.isAgg9
  z9:=Tryz.sizeOf9
  v9:=Tryz.zeroValue9
  t20:=Tryz.underlying20
  a20:=Tryz.isAgg20
  z20:=Tryz.sizeOf20
  v20:=Tryz.zeroValue20
  t37:=Tryz.underlying54
  a37:=Tryz.isAgg54
  z37:=Tryz.sizeOf54
  v37:=Tryz.zeroValue54
  t46:=Tryz.underlying114
  a46:=Tryz.isAgg114
  z46:=Tryz.sizeOf114
  v46:=Tryz.zeroValue114
  t51:=Tryz.underlying125
  a51:=Tryz.isAgg125
  z51:=Tryz.sizeOf125
  v51:=Tryz.zeroValue125
  t53:=Tryz.underlying116
  a53:=Tryz.isAgg116
  z53:=Tryz.sizeOf116
  v53:=Tryz.zeroValue116
  t171:=Tryz.underlying139
  a171:=Tryz.isAgg139
  z171:=Tryz.sizeOf139
  v171:=Tryz.zeroValue139
  t173:=Tryz.underlying142
  a173:=Tryz.isAgg142
  z173:=Tryz.sizeOf142
  v173:=Tryz.zeroValue142
  t212:=Tryz.underlying145
  a212:=Tryz.isAgg145
  z212:=Tryz.sizeOf145
  v212:=Tryz.zeroValue145
  t213:=Tryz.underlying146
  a213:=Tryz.isAgg146
  z213:=Tryz.sizeOf146
  t232:=Tryz.underlying149
  a232:=Tryz.isAgg149
  z232:=Tryz.sizeOf149
  v232:=Tryz.zeroValue149
  t233:=Tryz.underlying150
  a233:=Tryz.isAgg150
  z233:=Tryz.sizeOf150
  v233:=Tryz.zeroValue150
  g17:=by kernel_rfl
  g18:=by kernel_rfl
  g19:=by kernel_rfl
  i0:=by kernel_rfl
  i2:=by kernel_rfl
  i3:=by kernel_rfl
  i4:=by kernel_rfl
  i5:=by kernel_rfl
  i9:=by kernel_rfl
  i20:=by kernel_rfl
  i37:=by kernel_rfl
  i46:=by kernel_rfl
  i51:=by kernel_rfl
  i53:=by kernel_rfl
  i171:=by kernel_rfl
  i173:=by kernel_rfl
  i212:=by kernel_rfl
  i232:=by kernel_rfl
  i233:=by kernel_rfl
  m17:=by kernel_rfl
  m18:=by kernel_rfl
  m19:=by kernel_rfl }
def iM:Ren:=⟨fun|172=>40|244=>59|245=>60|247=>82|279=>83|280=>84|281=>85|282=>86|287=>105|316=>106|171=>108|205=>107|321=>115|322=>116|243=>117|246=>119|283=>120|284=>121|285=>122|286=>123|129=>125|317=>124|318=>126|319=>127|320=>128|337=>129|338=>130|n=>n,fun|9=>9|3=>3|75=>60|76=>61|4=>4|5=>5|167=>100|37=>54|0=>0|85=>101|2=>2|168=>103|53=>116|175=>117|46=>114|210=>121|127=>76|145=>136|143=>134|21=>21|171=>139|173=>142|212=>145|51=>125|20=>20|213=>146|232=>149|233=>150|80=>29|n=>n,fun|15=>2|16=>3|17=>6|18=>7|19=>8|n=>n⟩
theorem CH:LaysC.n172 Tryz.prog iM:={
  mixed:=by kernel_rfl
  f129:=Tryz.func125.trans (congrArg some (by kernel_rfl))
  f171:=Tryz.func108.trans (congrArg some (by kernel_rfl))
  f172:=Tryz.func40.trans (congrArg some (by kernel_rfl))
  f205:=Tryz.func107.trans (congrArg some (by kernel_rfl))
  f243:=Tryz.func117.trans (congrArg some (by kernel_rfl))
  f244:=Tryz.func59.trans (congrArg some (by kernel_rfl))
  f245:=Tryz.func60.trans (congrArg some (by kernel_rfl))
  f246:=Tryz.func119.trans (congrArg some (by kernel_rfl))
  f247:=Tryz.func82.trans (congrArg some (by kernel_rfl))
  f279:=Tryz.func83.trans (congrArg some (by kernel_rfl))
  f280:=Tryz.func84.trans (congrArg some (by kernel_rfl))
  f281:=Tryz.func85.trans (congrArg some (by kernel_rfl))
  f282:=Tryz.func86.trans (congrArg some (by kernel_rfl))
  f283:=Tryz.func120.trans (congrArg some (by kernel_rfl))
  f284:=Tryz.func121.trans (congrArg some (by kernel_rfl))
  f285:=Tryz.func122.trans (congrArg some (by kernel_rfl))
  f286:=Tryz.func123.trans (congrArg some (by kernel_rfl))
  f287:=Tryz.func105.trans (congrArg some (by kernel_rfl))
  f316:=Tryz.func106.trans (congrArg some (by kernel_rfl))
  f317:=Tryz.func124.trans (congrArg some (by kernel_rfl))
  f318:=Tryz.func126.trans (congrArg some (by kernel_rfl))
  f319:=Tryz.func127.trans (congrArg some (by kernel_rfl))
  f320:=Tryz.func128.trans (congrArg some (by kernel_rfl))
  f321:=Tryz.func115.trans (congrArg some (by kernel_rfl))
  f322:=Tryz.func116.trans (congrArg some (by kernel_rfl))
  f337:=Tryz.func129.trans (congrArg some (by kernel_rfl))
  f338:=Tryz.func130.trans (congrArg some (by kernel_rfl))
  t0:=Tryz.underlying0
  a0:=Tryz.isAgg0
  z0:=Tryz.sizeOf0
  v0:=Tryz.zeroValue0
  t2:=Tryz.underlying2
  a2:=Tryz.isAgg2
  z2:=Tryz.sizeOf2
  v2:=Tryz.zeroValue2
  t3:=Tryz.underlying3
  a3:=Tryz.isAgg3
  z3:=Tryz.sizeOf3
  v3:=Tryz.zeroValue3
  t4:=Tryz.underlying4
  a4:=Tryz.isAgg4
  z4:=Tryz.sizeOf4
  v4:=Tryz.zeroValue4
  t5:=Tryz.underlying5
  a5:=Tryz.isAgg5
  z5:=Tryz.sizeOf5
  v5:=Tryz.zeroValue5
  t9:=Tryz.underlying9
  a9:=Tryz.isAgg9
  z9:=Tryz.sizeOf9
  v9:=Tryz.zeroValue9
  t20:=Tryz.underlying20
  a20:=Tryz.isAgg20
  z20:=Tryz.sizeOf20
  v20:=Tryz.zeroValue20
  t21:=Tryz.underlying21
  a21:=Tryz.isAgg21
  z21:=Tryz.sizeOf21
  v21:=Tryz.zeroValue21
  t37:=Tryz.underlying54
  a37:=Tryz.isAgg54
  z37:=Tryz.sizeOf54
  v37:=Tryz.zeroValue54
  t46:=Tryz.underlying114
  a46:=Tryz.isAgg114
  z46:=Tryz.sizeOf114
  v46:=Tryz.zeroValue114
  t51:=Tryz.underlying125
  a51:=Tryz.isAgg125
  z51:=Tryz.sizeOf125
  v51:=Tryz.zeroValue125
  t53:=Tryz.underlying116
  a53:=Tryz.isAgg116
  z53:=Tryz.sizeOf116
  v53:=Tryz.zeroValue116
  t75:=Tryz.underlying60
  a75:=Tryz.isAgg60
  z75:=Tryz.sizeOf60
  v75:=Tryz.zeroValue60
  t76:=Tryz.underlying61
  a76:=Tryz.isAgg61
  z76:=Tryz.sizeOf61
  v76:=Tryz.zeroValue61
  t85:=Tryz.underlying101
  a85:=Tryz.isAgg101
  z85:=Tryz.sizeOf101
  v85:=Tryz.zeroValue101
  t127:=Tryz.underlying76
  a127:=Tryz.isAgg76
  z127:=Tryz.sizeOf76
  v127:=Tryz.zeroValue76
  t143:=Tryz.underlying134
  a143:=Tryz.isAgg134
  z143:=Tryz.sizeOf134
  v143:=Tryz.zeroValue134
  t145:=Tryz.underlying136
  a145:=Tryz.isAgg136
  z145:=Tryz.sizeOf136
  v145:=Tryz.zeroValue136
  t167:=Tryz.underlying100
  a167:=Tryz.isAgg100
  z167:=Tryz.sizeOf100
  v167:=Tryz.zeroValue100
  t168:=Tryz.underlying103
  a168:=Tryz.isAgg103
  z168:=Tryz.sizeOf103
  v168:=Tryz.zeroValue103
  t171:=Tryz.underlying139
  a171:=Tryz.isAgg139
  z171:=Tryz.sizeOf139
  v171:=Tryz.zeroValue139
  t173:=Tryz.underlying142
  a173:=Tryz.isAgg142
  z173:=Tryz.sizeOf142
  v173:=Tryz.zeroValue142
  t175:=Tryz.underlying117
  a175:=Tryz.isAgg117
  z175:=Tryz.sizeOf117
  v175:=Tryz.zeroValue117
  t210:=Tryz.underlying121
  a210:=Tryz.isAgg121
  z210:=Tryz.sizeOf121
  v210:=Tryz.zeroValue121
  t212:=Tryz.underlying145
  a212:=Tryz.isAgg145
  z212:=Tryz.sizeOf145
  v212:=Tryz.zeroValue145
  t213:=Tryz.underlying146
  a213:=Tryz.isAgg146
  z213:=Tryz.sizeOf146
  t232:=Tryz.underlying149
  a232:=Tryz.isAgg149
  z232:=Tryz.sizeOf149
  v232:=Tryz.zeroValue149
  t233:=Tryz.underlying150
  a233:=Tryz.isAgg150
  z233:=Tryz.sizeOf150
  v233:=Tryz.zeroValue150
  g15:=by kernel_rfl
  g16:=by kernel_rfl
  g17:=by kernel_rfl
  g18:=by kernel_rfl
  g19:=by kernel_rfl
  t80:=Tryz.underlying29
  a80:=Tryz.isAgg29
  z80:=Tryz.sizeOf29
  v80:=Tryz.zeroValue29
  i0:=by kernel_rfl
  i2:=by kernel_rfl
  i3:=by kernel_rfl
  i4:=by kernel_rfl
  i5:=by kernel_rfl
  i9:=by kernel_rfl
  i20:=by kernel_rfl
  i21:=by kernel_rfl
  i37:=by kernel_rfl
  i46:=by kernel_rfl
  i51:=by kernel_rfl
  i53:=by kernel_rfl
  i75:=by kernel_rfl
  i76:=by kernel_rfl
  i80:=by kernel_rfl
  i85:=by kernel_rfl
  i127:=by kernel_rfl
  i143:=by kernel_rfl
  i145:=by kernel_rfl
  i167:=by kernel_rfl
  i168:=by kernel_rfl
  i171:=by kernel_rfl
  i173:=by kernel_rfl
  i175:=by kernel_rfl
  i210:=by kernel_rfl
  i212:=by kernel_rfl
  i232:=by kernel_rfl
  i233:=by kernel_rfl
  m15:=by kernel_rfl
  m16:=by kernel_rfl
  m17:=by kernel_rfl
  m18:=by kernel_rfl
  m19:=by kernel_rfl
  c0:=by kernel_rfl
  c2:=by kernel_rfl
  c3:=by kernel_rfl
  c4:=by kernel_rfl
  c5:=by kernel_rfl
  c9:=by kernel_rfl
  c20:=by kernel_rfl
  c21:=by kernel_rfl
  c37:=by kernel_rfl
  c46:=by kernel_rfl
  c51:=by kernel_rfl
  c53:=by kernel_rfl
  c75:=by kernel_rfl
  c76:=by kernel_rfl
  c80:=by kernel_rfl
  c85:=by kernel_rfl
  c127:=by kernel_rfl
  c143:=by kernel_rfl
  c145:=by kernel_rfl
  c167:=by kernel_rfl
  c168:=by kernel_rfl
  c171:=by kernel_rfl
  c173:=by kernel_rfl
  c175:=by kernel_rfl
  c210:=by kernel_rfl
  c212:=by kernel_rfl
  c213:=by kernel_rfl
  c232:=by kernel_rfl
  c233:=by kernel_rfl }
def rR:Ren:=⟨fun|103=>22|210=>38|206=>58|n=>n,fun|9=>9|4=>4|24=>42|3=>3|n=>n,fun|n=>n⟩
theorem C0:Lays.n103 Tryz.prog rR:={
  mixed:=by kernel_rfl
  f103:=Tryz.func22.trans (congrArg some (by kernel_rfl))
  f206:=Tryz.func58.trans (congrArg some (by kernel_rfl))
  f210:=Tryz.func38.trans (congrArg some (by kernel_rfl))
  t3:=Tryz.underlying3
  a3:=Tryz.isAgg3
  z3:=Tryz.sizeOf3
  v3:=Tryz.zeroValue3
  t4:=Tryz.underlying4
  a4:=Tryz.isAgg4
  z4:=Tryz.sizeOf4
  v4:=Tryz.zeroValue4
  t9:=Tryz.underlying9
  a9:=Tryz.isAgg9
  z9:=Tryz.sizeOf9
  v9:=Tryz.zeroValue9
  t24:=Tryz.underlying42
  a24:=Tryz.isAgg42
  z24:=Tryz.sizeOf42
  v24:=Tryz.zeroValue42 }
abbrev CJ:Nat:=6
theorem pE:Tryz.prog.globalNamed "internal/strconv.uint64pow10" = some CJ:=by kernel_rfl
theorem c171:cH Tryz.prog 108:=⟨Tryz.f108,aD Tryz.f108,Tryz.func108,by kernel_rfl,by kernel_rfl⟩
theorem Ji:cH Tryz.prog 40:=⟨Tryz.f40,aD Tryz.f40,Tryz.func40,by kernel_rfl,by kernel_rfl⟩
theorem JB:cH Tryz.prog 22:=⟨Tryz.f22,aD Tryz.f22,Tryz.func22,by kernel_rfl,by kernel_rfl⟩
end Go.Proofs.YtkepagpkphgpeaaGreatDoor
namespace Go.Proofs.YtkepagpkphgpeaaGreatDoor
open Go.AM Go.Shelf
def iI:Ren:=⟨fun|146=>21|221=>37|268=>55|138=>56|143=>57|195=>80|197=>72|218=>81|219=>69|260=>103|217=>98|225=>99|224=>100|267=>101|266=>112|314=>113|n=>n,fun|9=>9|31=>36|3=>3|4=>4|0=>0|105=>92|21=>21|5=>5|46=>114|119=>129|139=>132|138=>131|146=>126|51=>125|n=>n,fun|1=>1|3=>4|4=>5|n=>n⟩
theorem vY:Lays.n146 Tryz.prog iI:={
  mixed:=by kernel_rfl
  f138:=Tryz.func56.trans (congrArg some (by kernel_rfl))
  f143:=Tryz.func57.trans (congrArg some (by kernel_rfl))
  f146:=Tryz.func21.trans (congrArg some (by kernel_rfl))
  f195:=Tryz.func80.trans (congrArg some (by kernel_rfl))
  f197:=Tryz.func72.trans (congrArg some (by kernel_rfl))
  f217:=Tryz.func98.trans (congrArg some (by kernel_rfl))
  f218:=Tryz.func81.trans (congrArg some (by kernel_rfl))
  f219:=Tryz.func69.trans (congrArg some (by kernel_rfl))
  f221:=Tryz.func37.trans (congrArg some (by kernel_rfl))
  f224:=Tryz.func100.trans (congrArg some (by kernel_rfl))
  f225:=Tryz.func99.trans (congrArg some (by kernel_rfl))
  f260:=Tryz.func103.trans (congrArg some (by kernel_rfl))
  f266:=Tryz.func112.trans (congrArg some (by kernel_rfl))
  f267:=Tryz.func101.trans (congrArg some (by kernel_rfl))
  f268:=Tryz.func55.trans (congrArg some (by kernel_rfl))
  f314:=Tryz.func113.trans (congrArg some (by kernel_rfl))
  t0:=Tryz.underlying0
  a0:=Tryz.isAgg0
  z0:=Tryz.sizeOf0
  v0:=Tryz.zeroValue0
  t3:=Tryz.underlying3
  a3:=Tryz.isAgg3
  z3:=Tryz.sizeOf3
  v3:=Tryz.zeroValue3
  t4:=Tryz.underlying4
  a4:=Tryz.isAgg4
  z4:=Tryz.sizeOf4
  v4:=Tryz.zeroValue4
  t5:=Tryz.underlying5
  a5:=Tryz.isAgg5
  z5:=Tryz.sizeOf5
  v5:=Tryz.zeroValue5
  t9:=Tryz.underlying9
  a9:=Tryz.isAgg9
  z9:=Tryz.sizeOf9
  v9:=Tryz.zeroValue9
  t21:=Tryz.underlying21
  a21:=Tryz.isAgg21
  z21:=Tryz.sizeOf21
  v21:=Tryz.zeroValue21
  t31:=Tryz.underlying36
  a31:=Tryz.isAgg36
  z31:=Tryz.sizeOf36
  v31:=Tryz.zeroValue36
  t46:=Tryz.underlying114
  a46:=Tryz.isAgg114
  z46:=Tryz.sizeOf114
  v46:=Tryz.zeroValue114
  t51:=Tryz.underlying125
  a51:=Tryz.isAgg125
  z51:=Tryz.sizeOf125
  v51:=Tryz.zeroValue125
  t105:=Tryz.underlying92
  a105:=Tryz.isAgg92
  z105:=Tryz.sizeOf92
  v105:=Tryz.zeroValue92
  t119:=Tryz.underlying129
  a119:=Tryz.isAgg129
  z119:=Tryz.sizeOf129
  t138:=Tryz.underlying131
  a138:=Tryz.isAgg131
  z138:=Tryz.sizeOf131
  v138:=Tryz.zeroValue131
  t139:=Tryz.underlying132
  a139:=Tryz.isAgg132
  z139:=Tryz.sizeOf132
  v139:=Tryz.zeroValue132
  t146:=Tryz.underlying126
  a146:=Tryz.isAgg126
  z146:=Tryz.sizeOf126
  v146:=Tryz.zeroValue126
  g1:=by kernel_rfl
  g3:=by kernel_rfl
  g4:=by kernel_rfl }
def rL:Ren:=⟨fun|145=>26|220=>45|219=>69|217=>98|225=>99|224=>100|267=>101|266=>112|314=>113|n=>n,fun|9=>9|4=>4|59=>57|3=>3|5=>5|46=>114|146=>126|51=>125|n=>n,fun|1=>1|n=>n⟩
theorem Ct:Lays.n145 Tryz.prog rL:={
  mixed:=by kernel_rfl
  f145:=Tryz.func26.trans (congrArg some (by kernel_rfl))
  f217:=Tryz.func98.trans (congrArg some (by kernel_rfl))
  f219:=Tryz.func69.trans (congrArg some (by kernel_rfl))
  f220:=Tryz.func45.trans (congrArg some (by kernel_rfl))
  f224:=Tryz.func100.trans (congrArg some (by kernel_rfl))
  f225:=Tryz.func99.trans (congrArg some (by kernel_rfl))
  f266:=Tryz.func112.trans (congrArg some (by kernel_rfl))
  f267:=Tryz.func101.trans (congrArg some (by kernel_rfl))
  f314:=Tryz.func113.trans (congrArg some (by kernel_rfl))
  t3:=Tryz.underlying3
  a3:=Tryz.isAgg3
  z3:=Tryz.sizeOf3
  v3:=Tryz.zeroValue3
  t4:=Tryz.underlying4
  a4:=Tryz.isAgg4
  z4:=Tryz.sizeOf4
  v4:=Tryz.zeroValue4
  t5:=Tryz.underlying5
  a5:=Tryz.isAgg5
  z5:=Tryz.sizeOf5
  v5:=Tryz.zeroValue5
  t9:=Tryz.underlying9
  a9:=Tryz.isAgg9
  z9:=Tryz.sizeOf9
  v9:=Tryz.zeroValue9
  t46:=Tryz.underlying114
  a46:=Tryz.isAgg114
  z46:=Tryz.sizeOf114
  v46:=Tryz.zeroValue114
  t51:=Tryz.underlying125
  a51:=Tryz.isAgg125
  z51:=Tryz.sizeOf125
  v51:=Tryz.zeroValue125
  t59:=Tryz.underlying57
  a59:=Tryz.isAgg57
  z59:=Tryz.sizeOf57
  v59:=Tryz.zeroValue57
  t146:=Tryz.underlying126
  a146:=Tryz.isAgg126
  z146:=Tryz.sizeOf126
  v146:=Tryz.zeroValue126
  g1:=by kernel_rfl }
def gn:Ren:=⟨fun|155=>28|154=>47|138=>56|165=>71|143=>57|166=>27|197=>72|169=>29|195=>80|218=>81|240=>46|241=>102|219=>69|260=>103|276=>70|277=>114|217=>98|225=>99|224=>100|267=>101|266=>112|314=>113|n=>n,fun|9=>9|3=>3|4=>4|72=>56|0=>0|76=>61|105=>92|21=>21|5=>5|70=>53|20=>20|37=>54|75=>60|127=>76|164=>89|46=>114|119=>129|139=>132|138=>131|146=>126|51=>125|80=>29|n=>n,fun|1=>1|3=>4|4=>5|n=>n⟩
set_option maxRecDepth 100000 in
theorem rU:Lays.n155 Tryz.prog gn:={
  mixed:=by kernel_rfl
  f138:=Tryz.func56.trans (congrArg some (by kernel_rfl))
  f143:=Tryz.func57.trans (congrArg some (by kernel_rfl))
  f154:=Tryz.func47.trans (congrArg some (by kernel_rfl))
  f155:=Tryz.func28.trans (congrArg some (by kernel_rfl))
  f165:=Tryz.func71.trans (congrArg some (by kernel_rfl))
  f166:=Tryz.func27.trans (congrArg some (by kernel_rfl))
  f169:=Tryz.func29.trans (congrArg some (by kernel_rfl))
  f195:=Tryz.func80.trans (congrArg some (by kernel_rfl))
  f197:=Tryz.func72.trans (congrArg some (by kernel_rfl))
  f217:=Tryz.func98.trans (congrArg some (by kernel_rfl))
  f218:=Tryz.func81.trans (congrArg some (by kernel_rfl))
  f219:=Tryz.func69.trans (congrArg some (by kernel_rfl))
  f224:=Tryz.func100.trans (congrArg some (by kernel_rfl))
  f225:=Tryz.func99.trans (congrArg some (by kernel_rfl))
  f240:=Tryz.func46.trans (congrArg some (by kernel_rfl))
  f241:=Tryz.func102.trans (congrArg some (by kernel_rfl))
  f260:=Tryz.func103.trans (congrArg some (by kernel_rfl))
  f266:=Tryz.func112.trans (congrArg some (by kernel_rfl))
  f267:=Tryz.func101.trans (congrArg some (by kernel_rfl))
  f276:=Tryz.func70.trans (congrArg some (by kernel_rfl))
  f277:=Tryz.func114.trans (congrArg some (by kernel_rfl))
  f314:=Tryz.func113.trans (congrArg some (by kernel_rfl))
  t0:=Tryz.underlying0
  a0:=Tryz.isAgg0
  z0:=Tryz.sizeOf0
  v0:=Tryz.zeroValue0
  t3:=Tryz.underlying3
  a3:=Tryz.isAgg3
  z3:=Tryz.sizeOf3
  v3:=Tryz.zeroValue3
  t4:=Tryz.underlying4
  a4:=Tryz.isAgg4
  z4:=Tryz.sizeOf4
  v4:=Tryz.zeroValue4
  t5:=Tryz.underlying5
  a5:=Tryz.isAgg5
  z5:=Tryz.sizeOf5
  v5:=Tryz.zeroValue5
  t9:=Tryz.underlying9
  a9:=Tryz.isAgg9
  z9:=Tryz.sizeOf9
  v9:=Tryz.zeroValue9
  t20:=Tryz.underlying20
  a20:=Tryz.isAgg20
  z20:=Tryz.sizeOf20
  v20:=Tryz.zeroValue20
  t21:=Tryz.underlying21
  a21:=Tryz.isAgg21
  z21:=Tryz.sizeOf21
  v21:=Tryz.zeroValue21
  t37:=Tryz.underlying54
  a37:=Tryz.isAgg54
  z37:=Tryz.sizeOf54
  v37:=Tryz.zeroValue54
  t46:=Tryz.underlying114
  a46:=Tryz.isAgg114
  z46:=Tryz.sizeOf114
  v46:=Tryz.zeroValue114
  t51:=Tryz.underlying125
  a51:=Tryz.isAgg125
  z51:=Tryz.sizeOf125
  v51:=Tryz.zeroValue125
  t70:=Tryz.underlying53
  a70:=Tryz.isAgg53
  z70:=Tryz.sizeOf53
  v70:=Tryz.zeroValue53
  t72:=Tryz.underlying56
  a72:=Tryz.isAgg56
  z72:=Tryz.sizeOf56
  v72:=Tryz.zeroValue56
  t75:=Tryz.underlying60
  a75:=Tryz.isAgg60
  z75:=Tryz.sizeOf60
  v75:=Tryz.zeroValue60
  t76:=Tryz.underlying61
  a76:=Tryz.isAgg61
  z76:=Tryz.sizeOf61
  v76:=Tryz.zeroValue61
  t105:=Tryz.underlying92
  a105:=Tryz.isAgg92
  z105:=Tryz.sizeOf92
  v105:=Tryz.zeroValue92
  t119:=Tryz.underlying129
  a119:=Tryz.isAgg129
  z119:=Tryz.sizeOf129
  t127:=Tryz.underlying76
  a127:=Tryz.isAgg76
  z127:=Tryz.sizeOf76
  v127:=Tryz.zeroValue76
  t138:=Tryz.underlying131
  a138:=Tryz.isAgg131
  z138:=Tryz.sizeOf131
  v138:=Tryz.zeroValue131
  t139:=Tryz.underlying132
  a139:=Tryz.isAgg132
  z139:=Tryz.sizeOf132
  v139:=Tryz.zeroValue132
  t146:=Tryz.underlying126
  a146:=Tryz.isAgg126
  z146:=Tryz.sizeOf126
  v146:=Tryz.zeroValue126
  t164:=Tryz.underlying89
  a164:=Tryz.isAgg89
  z164:=Tryz.sizeOf89
  v164:=Tryz.zeroValue89
  g1:=by kernel_rfl
  g3:=by kernel_rfl
  g4:=by kernel_rfl }
def lG:Ren:=⟨fun|156=>94|165=>71|166=>27|169=>29|240=>46|241=>102|276=>70|277=>114|n=>n,fun|31=>36|9=>9|3=>3|4=>4|0=>0|20=>20|72=>56|76=>61|70=>53|37=>54|75=>60|127=>76|164=>89|5=>5|80=>29|n=>n,fun|n=>n⟩
set_option maxRecDepth 100000 in
theorem Dk:Lays.n156 Tryz.prog lG:={
  mixed:=by kernel_rfl
  f156:=Tryz.func94.trans (congrArg some (by kernel_rfl))
  f165:=Tryz.func71.trans (congrArg some (by kernel_rfl))
  f166:=Tryz.func27.trans (congrArg some (by kernel_rfl))
  f169:=Tryz.func29.trans (congrArg some (by kernel_rfl))
  f240:=Tryz.func46.trans (congrArg some (by kernel_rfl))
  f241:=Tryz.func102.trans (congrArg some (by kernel_rfl))
  f276:=Tryz.func70.trans (congrArg some (by kernel_rfl))
  f277:=Tryz.func114.trans (congrArg some (by kernel_rfl))
  t0:=Tryz.underlying0
  a0:=Tryz.isAgg0
  z0:=Tryz.sizeOf0
  v0:=Tryz.zeroValue0
  t3:=Tryz.underlying3
  a3:=Tryz.isAgg3
  z3:=Tryz.sizeOf3
  v3:=Tryz.zeroValue3
  t4:=Tryz.underlying4
  a4:=Tryz.isAgg4
  z4:=Tryz.sizeOf4
  v4:=Tryz.zeroValue4
  t9:=Tryz.underlying9
  a9:=Tryz.isAgg9
  z9:=Tryz.sizeOf9
  v9:=Tryz.zeroValue9
  t20:=Tryz.underlying20
  a20:=Tryz.isAgg20
  z20:=Tryz.sizeOf20
  v20:=Tryz.zeroValue20
  t31:=Tryz.underlying36
  a31:=Tryz.isAgg36
  z31:=Tryz.sizeOf36
  v31:=Tryz.zeroValue36
  t37:=Tryz.underlying54
  a37:=Tryz.isAgg54
  z37:=Tryz.sizeOf54
  v37:=Tryz.zeroValue54
  t70:=Tryz.underlying53
  a70:=Tryz.isAgg53
  z70:=Tryz.sizeOf53
  v70:=Tryz.zeroValue53
  t72:=Tryz.underlying56
  a72:=Tryz.isAgg56
  z72:=Tryz.sizeOf56
  v72:=Tryz.zeroValue56
  t75:=Tryz.underlying60
  a75:=Tryz.isAgg60
  z75:=Tryz.sizeOf60
  v75:=Tryz.zeroValue60
  t76:=Tryz.underlying61
  a76:=Tryz.isAgg61
  z76:=Tryz.sizeOf61
  v76:=Tryz.zeroValue61
  t127:=Tryz.underlying76
  a127:=Tryz.isAgg76
  z127:=Tryz.sizeOf76
  v127:=Tryz.zeroValue76
  t164:=Tryz.underlying89
  a164:=Tryz.isAgg89
  z164:=Tryz.sizeOf89
  v164:=Tryz.zeroValue89 }
theorem iG:Lays.n166 Tryz.prog gn:={ rU with }
theorem rM:Lays.n169 Tryz.prog gn:={ rU with }
set_option maxRecDepth 100000 in
theorem lW:Builder.Extra Tryz.prog gn where
  sizeBuilder:=by kernel_rfl
  liesBuilder:=by kernel_rfl
  t5:=by kernel_rfl
  a5:=Tryz.isAgg5
  z5:=Tryz.sizeOf5
  v5:=Tryz.zeroValue5
  infoByte:=by kernel_rfl
  cellsByte:=by kernel_rfl
  sizeByte:=by kernel_rfl
  neB5:=by decide
set_option maxRecDepth 100000 in
theorem EI:Builder.Extra Tryz.prog lG where
  sizeBuilder:=by kernel_rfl
  liesBuilder:=by kernel_rfl
  t5:=by kernel_rfl
  a5:=Tryz.isAgg5
  z5:=Tryz.sizeOf5
  v5:=Tryz.zeroValue5
  infoByte:=by kernel_rfl
  cellsByte:=by kernel_rfl
  sizeByte:=by kernel_rfl
  neB5:=by decide
end Go.Proofs.YtkepagpkphgpeaaGreatDoor
namespace Go.Proofs.YtkepagpkphgpeaaGreatDoor
open Go.AM
variable {Γ:aZ}
def wW(Γ:aZ):Prop:=Γ CJ=some (Lib.pow10Tab.map (AV.int .u64))
theorem Fv(hΓ:wW Γ)(n:Int)(hn:i64 n)(h:AH):T Tryz.prog Γ Fn.Ki [.int .i64 n] h fun v h'=>v=.str (aF n)∧h'=h:=
  C7 CY c171 pE hΓ n hn.1 hn.2 h
theorem Hj(hΓ:wW Γ)(n:Int)(hn:i64 n)(h:AH):T Tryz.prog Γ Fn.IC [.int .i64 n] h fun v h'=>v=.str (aF n)∧h'=h:=by
  refine F4 (ax aB mixed [] _ _ _ ?_)
  unfold BZ
  simp only[EZ,ag,Nat.reduceAdd,Nat.reduceBEq,xf]
  refine an.val (by simp only[EO]) (Fv hΓ n hn _) ?_
  simp only[EZ,ag,Nat.reduceAdd,Nat.reduceBEq,xf]
  first|exact⟨rfl,rfl⟩|exact rfl
structure fP (Γ:aZ):Prop where
  itoa:wW Γ
  e1:∃t p,Γ (iM.g 15)=some [.opq (.iface t p)]
  e2:∃t p,Γ (iM.g 16)=some [.opq (.iface t p)]
  mx:∃m,Γ 1=some [.opq (.int .i64 m)]
  ops:Γ 0=some (opsL.map AV.str)
theorem E1(hΓ:fP Γ){w:Tx}(hw:w.length≤1000)(ha:pM w=true)(h:AH):
    T Tryz.prog Γ Fn.Kb [.str (tb w)] h fun v h'=>(match jD w with|some n=>v=.tup [.int .i64 n,.opq .nilIface]|none=>∃x t p,v=.tup [.int .i64 x,.opq (.iface t p)])∧h'=h:=by
  obtain⟨t1,p1,h1⟩:=hΓ.e1
  obtain⟨t2,p2,h2⟩:=hΓ.e2
  refine(CU CH Ji h1 h2 (tb w) (by rw[cK];omega) h).mono ?_
  rintro v h' ⟨⟨x,e,rfl,hx⟩,rfl⟩
  refine⟨?_,rfl⟩
  have ew:(tb w).data.toList=w:=by simp[tb]
  unfold qX at hx
  unfold pM at ha
  rw[ew]at hx
  cases hn:jD w with
  | some n=>
    rw[hn]at ha
    cases hq:Lib.atoiAll w with
    | ok m=>
      rw[hq]at hx ha
      simp only[decide_eq_true_eq]at ha
      obtain⟨rfl,rfl⟩:=hx
      rw[ha]
    | _=>rw[hq]at ha;cases ha
  | none=>
    rw[hn]at ha
    cases hq:Lib.atoiAll w with
    | ok m=>rw[hq]at ha;cases ha
    | _=>rw[hq]at hx;obtain⟨t,p,rfl⟩:=hx;exact⟨x,t,p,rfl⟩
theorem rN(s p:Tx)(h:AH):T Tryz.prog Γ Fn.JA [.str (tb s),.str (tb p)] h fun v h'=>v=.tup [.str (tb (Lib.trimPrefix s p)),.bool (Lib.hasPrefix s p)]∧h'=h:=by
  have:=rm (Γ:=Γ) C0 JB (tb s) (tb p) h
  have e1:(tb s).data.toList=s:=by simp[tb]
  have e2:(tb p).data.toList=p:=by simp[tb]
  rw[e1,e2]at this
  exact this
theorem c146:cH Tryz.prog 21:=⟨Tryz.f21,aD Tryz.f21,Tryz.func21,by kernel_rfl,by kernel_rfl⟩
theorem c156:cH Tryz.prog 94:=⟨Tryz.f94,aD Tryz.f94,Tryz.func94,by kernel_rfl,by kernel_rfl⟩
theorem zO(hΓ:fP Γ){ρ:bO}{w:World}{h:AH}(gg:pd Γ ρ)(r:RH ρ [] [] h w):∃m,w.cell? ⟨1,0,none⟩=some (.int .i64 m):=by
  obtain⟨m,hm⟩:=hΓ.mx
  obtain⟨arr,T,fr,k1,k2,k3⟩:=gg.var r hm
  obtain⟨y,hy,ry⟩:=k3 0 _ rfl
  cases ry
  exact⟨m,by rw[cell_of k1];exact hy⟩
theorem yB(hΓ:fP Γ)(s sep:ByteArray)(hs:s.size<4294967281)(h1:1≤sep.size){xs:List ByteArray}(hx:Lib.splitB sep 0 (Lib.countB s sep) s=xs)(hn:xs.length=Lib.countB s sep+1)(h:AH):
    T Tryz.prog Γ Fn.IA [.str s,.str sep] h fun v h'=>v=(fa xs).av false∧h'=h:=by
  refine T.CZ (T.qp ?_)
  refine⟨c146,fun ρ w cargs r gg ra=>?_⟩
  obtain⟨v,u,rfl,rv,ru⟩:=pB ra
  cases rv;cases ru
  obtain⟨m,hm⟩:=zO hΓ gg r
  refine(Any.strings_Split vY (by kernel_rfl) s sep m w hs hm h1).mono ?_
  rintro e w' ⟨rfl,rfl⟩
  rw[hx,←hn]
  have nb:fA w (Obj.cells (xs.map Value.string).toArray (iI.t 9)) (w.alloc (.cells (xs.map Value.string).toArray (iI.t 9))):=fA.push w _
  obtain⟨r',ev⟩:=r.jj (cs:=xs.map AV.str) nb (.inl (Nat.le_refl _)) (by simp) (fun i x hx=>by
    rw[List.getElem?_map]at hx
    cases hc:xs[i]? with
    | none=>simp[hc]at hx
    | some y=>simp[hc]at hx;subst hx;exact⟨.string y,by simp[hc],.str _ _⟩)
  have hI:(ρ.ins h.length 0 (w.heap.size,0,(xs.map Value.string).toArray.size)).m h.length 0=some (w.heap.size,0,xs.length):=by simp[bO.ins]
  have hrv:=RV.gs (ρ:=ρ.ins h.length 0 (w.heap.size,0,(xs.map Value.string).toArray.size)) [] h.length 0 0 xs.length xs.length 1 true w.heap.size 0 xs.length xs.length hI (Nat.le_refl _) (Nat.le_refl _) (fun _=>rfl) (by omega)
  rw[Nat.add_zero]at hrv
  have hown:=lv h xs rfl
  have e:((xs.map fun n=>[AV.str n]).flatten)=xs.map AV.str:=by
    clear hx hn nb r' ev hI hrv hown
    induction xs<;>simp_all
  rw[e]at hown
  exact⟨_,_,_,_,rfl,hrv,r',ev,[some (0,xs.map AV.str)],[h.length],rfl,hown,by simp,by simp⟩
theorem CB{β:Bool}{ex:Bool}(xs:List Tx)(sep:Tx)(h0:xs≠[])(hN:xs.length≤1000)(hl:(Lib.join xs sep).length≤100000)(h:AH):
    T Tryz.prog Γ Fn.J2 [.vs β 1 ex (xs.map fun w=>[.str (tb w)]),.str (tb sep)] h fun v h'=>v=.str (tb (Lib.join xs sep))∧h'=h:=by
  refine⟨c156,fun ρ w cargs r gg ra=>?_⟩
  obtain⟨v,u,rfl,rv,ru⟩:=pB ra
  cases ru
  have ed:∀t:Tx,(tb t).data.toList=t:=fun t=>by simp[tb]
  have exs:(xs.map tb).map (·.data.toList)=xs:=by
    rw[List.map_map]
    have:((fun b:ByteArray=>b.data.toList) ∘ tb)=id:=funext ed
    rw[this,List.map_id]
  generalize hq:xs.map (fun w=>[AV.str (tb w)])=q at rv
  have hql:q.length=xs.length:=by rw[←hq,List.length_map]
  cases rv with
  | vs _ _ _ _ _ c o cap' f g1 g2 g3 g4 rr=>
    have hcells:∀(j:Nat) x,(xs.map tb)[j]? = some x→w.cell? ⟨c,o+j,none⟩=some (.string x):=fun j x hx=>by
      rw[List.getElem?_map]at hx
      cases hc:xs[j]? with
      | none=>simp[hc]at hx
      | some y=>
        simp[hc]at hx;subst hx
        have hj:q[j]? = some [AV.str (tb y)]:=by rw[←hq,List.getElem?_map,hc];rfl
        obtain⟨arr,a1,a2⟩:=g4 j _ hj 0 _ rfl
        have a3:=rr j _ hj 0 _ rfl
        obtain⟨T,fr,a4⟩:=r.im _ _ _ a1
        rw[cell_of a4]
        simp only[Nat.mul_one,Nat.add_zero]at a2
        rw[a2]
        generalize f j 0=z at a3
        cases a3;rfl
    have hc0:c<w.heap.size:=by
      obtain⟨y,ys,rfl⟩:=List.exists_cons_of_ne_nil h0
      have hj:q[0]? = some [AV.str (tb y)]:=by rw[←hq];rfl
      obtain⟨arr,a1,_⟩:=g4 0 _ hj 0 _ rfl
      exact r.pL a1
    have:=Any.strings_Join Dk EI c o cap' (xs.map tb) (tb sep) w hcells hc0 (by rw[List.length_map];omega) (by rw[List.length_map];omega) (by rw[exs,ed];omega)
    rw[exs,ed,List.length_map,←hql]at this
    refine this.mono ?_
    rintro e w' ⟨rfl,hb⟩
    exact⟨_,_,ρ,h,rfl,.str _ _,r.below hb,.below hb,rfl,rfl⟩
  | vs0=>exact absurd (List.length_eq_zero_iff.1 (by simpa using hql.symm)) h0
  | vsn=>exact absurd (List.length_eq_zero_iff.1 (by simpa using hql.symm)) h0
end Go.Proofs.YtkepagpkphgpeaaGreatDoor
namespace Go.Proofs.YtkepagpkphgpeaaGreatDoor
open Go.AM
variable {Γ:aZ}
theorem Ib{l:List ByteArray}{k:Nat}(hk:k<l.length)(e:List AV)(L:List (List AV))(H:AH):(St.mk e L H).cells (.ip false ((l.map AV.str).drop k)) 1=some [.str l[k]]:=by
  simp only[St.cells,sub,List.length_drop,List.length_map,Nat.zero_add,List.drop_zero]
  rw[if_pos (by omega),List.drop_eq_getElem_cons (by simpa using hk)]
  simp
def xx(s:St)(n sz:Nat):AV→AV→AR
  | x,.int _ k=>.cZ s (lN n sz x k)
  | _,_=>.stuck
theorem C5(gl:Bool)(s:St)(n sz:Nat)(x i:X):AM.step Γ gl s (.idxa n sz x i)=xx s n sz (s.eval Γ x) (s.eval Γ i):=by simp only[AM.step];unfold xx;cases s.eval Γ i<;>rfl
theorem xX(s:St)(n sz:Nat)(x:AV)(κ:IntKind)(k:Int):xx s n sz x (.int κ k)=.cZ s (lN n sz x k):=rfl
theorem Ep(hΓ:fP Γ)(n:Int)(h0:1≤n)(h1:n≤10)(h:AH):T Tryz.prog Γ Fn.I4 [.int .i64 n] h fun v h'=>v=.str (qG n)∧h'=h:=by
  have hin:=fun h=>qQ (Γ:=Γ) n 1 10 h
  rw[show iS n 1 10=true by simp only[iS,Bool.and_eq_true,decide_eq_true_eq];exact⟨h0,h1⟩]at hin
  obtain⟨k,rfl⟩:∃k:Nat,n=k:=⟨n.toNat,by omega⟩
  have hk:k<opsL.length:=by show k<11;omega
  have eo:opsL[k]=qG k:=by
    unfold qG;rw[if_pos (by omega)]
    simp[opsL]
  have hg:∀s:St,s.eval Γ (.g Gn.g0)=.ip false (opsL.map AV.str):=fun s=>by
    show(match Γ 0 with|some cs=>AV.ip false cs|none=>.any)=_
    rw[hΓ.ops]
  have ia:lN 11 1 (.ip false (opsL.map AV.str)) (k:Int)=some (.ip false ((opsL.map AV.str).drop k)):=by
    have:((k:Int)<11):=by omega
    simp[lN,this,jx]
  have rd:=fun e L H=>Ib hk e L H
  rw[eo]at rd
  refine Fj (ax aB mixed [] _ _ _ ?_)
  unfold BK
  simp only[EZ,ag,Nat.reduceAdd,Nat.reduceBEq,vU]
  refine an.val (by simp only[EO]) (hin _) ?_
  simp only[EZ,ag,Nat.reduceAdd,Nat.reduceBEq,vU,hg,C5,xX,ia,rd]
  first|exact⟨rfl,rfl⟩|exact rfl|trivial
theorem pf(l:List ByteArray)(hl:l.length≤1000)(w:ByteArray){i:Nat}(hi:i<l.length)(he:l[i]=w)(hf:∀k,(hk:k<i)→¬l[k]'(by omega)=w)(h:AH):T Tryz.prog Γ Fn.IK [.vs false 1 true (l.map fun n=>[.str n]),.str w] h fun v h'=>v=.int .i64 i∧h'=h:=by
  have L0:=cr false 1 true l fun n=>[AV.str n]
  have i0:=fun k hk=>ct (β:=false) (sz:=1) (ex:=true) (l:=l) (ce:=fun n=>[AV.str n]) (k:=k) hk
  generalize e0:AV.vs false 1 true (l.map fun n=>[AV.str n])=a0 at *
  refine HJ (ax aB mixed [] _ _ _ ?_)
  unfold Bd
  simp only[EZ,ag,Nat.reduceAdd,Nat.reduceBEq,s9,L0]
  refine bU aB mixed [] (fun k:Nat=>k≤i) (fun k=>i-k)
    (fun k=>kL a0 (.str w) (.int .i64 l.length) (.int .i64 k) ([]:List (List AV)) h) 0 (by omega) ⟨by simp[kL,cG,cI],rfl,rfl⟩ ?_
  rintro k hk
  have lt:((k:Nat):Int)<((l.length:Nat):Int):=by omega
  have i1:=i0 k (by omega)
  by_cases e:k=i
  · subst e
    have ew:w=l[k]:=he.symm
    simp only[EZ,ag,Nat.reduceAdd,Nat.reduceBEq,s9,kL,EB,aT,decide_eq_true lt,i1,aQ,decide_eq_true ew]
    first|exact⟨rfl,rfl⟩|exact rfl
  have ne:¬w=l[k]:=fun e2=>hf k (by omega) e2.symm
  simp only[EZ,ag,Nat.reduceAdd,Nat.reduceBEq,s9,kL,EB,aT,decide_eq_true lt,i1,aQ,decide_eq_false ne]
  exact⟨k+1,by omega,by omega,⟨by rw[wN (by omega)];simp[kL,cG,cI],rfl,rfl⟩⟩
theorem B7(n:Int)(h:AH):T Tryz.prog Γ Fn.CG [.int .i64 n] h fun v h'=>v=.bool (decide (n = -1))∧h'=h:=by
  refine E6 (ax aB mixed [] _ _ _ ?_)
  unfold BM
  simp only[EZ,ag,Nat.reduceAdd,Nat.reduceBEq,zy,aT,ak]
  first|exact⟨rfl,rfl⟩|exact rfl|trivial
structure Wd (h H:AH) (q:Nat) (ws:List ByteArray) (w:AV) (fp:List Nat):Prop where
  box:aS H q=some (0,[w])
  own:bM H w (fa ws) fp
  nd:fp.Nodup
  qf:q∉fp
  fr:∀c∈fp,h.length≤c
  ql:h.length≤q
  ex:∃N,H=h++N
theorem Wd.push{h H:AH}{q:Nat}{ws:List ByteArray}{w:AV}{fp:List Nat}(W:Wd h H q ws w fp)(s:ByteArray)(hl:ws.length≤1000):
    ∃w' H1 H2 fp',(∀e l,mP ⟨e,l,H++[some (0,[.str s])]⟩ 1 16 w (cB ⟨e,l,H++[some (0,[.str s])]⟩ 1 false (.gs H.length 0 0 1 1 1 true)) (lenOf (.gs H.length 0 0 1 1 1 true)) (lenOf w)=.val w' ⟨e,l,H1⟩)∧
      (∀(e:List AV) (L:List (List AV)),(St.mk e L H1).store (.gp q 0 0) [w']=some ⟨e,L,H2⟩)∧cellsOf w'=some [w']∧bC w'=true∧aK w'=true∧Wd h H2 q (ws++[s]) w' fp'∧H1[q]? = H[q]?∧
      (∀c,c<H.length→c∉fp→c≠q→H2[c]? = H[c]?)∧H.length≤H2.length∧∀c∈fp',c∈fp∨H.length≤c:=by
  obtain⟨box,own,nd,qf,fr,ql,N,hN⟩:=W
  have hq:q<H.length:=cw box
  obtain⟨w',H1,fp',ea,o',nd',hf',hl',hm'⟩:=fk (bytes:=16) own (ys:=[.str s]) (row:=[.s s]) (f2:=[]) (by simpa using nd) (by omega) rfl (.s .nil) (by simp only[List.length_map,bk];omega)
  have hm2:∀c∈fp',c∈fp∨H.length≤c:=fun c hc=>by
    rcases hm' c hc with g|g|g
    · exact .inl g
    · cases g
    · exact .inr g
  have hq1:H1[q]? = H[q]?:=hf' q qf hq
  have hb1:aS H1 q=some (0,[w]):=by rw[dn hq1];exact box
  obtain⟨c1,c2,c3,c4⟩:=o'.cell
  have qn:q∉fp':=fun hc=>by
    rcases hm2 q hc with g|g
    · exact qf g
    · omega
  refine⟨w',H1,H1.set q (some (0,[w'])),fp',ea,fun e L=>?_,c1,c2,c3,⟨?_,?_,nd',qn,fun c hc=>?_,ql,?_⟩,hq1,fun c h1 h2 h3=>?_,by simpa using hl',hm2⟩
  · simp only[St.store,hb1,Option.bind_some,if_true]
    simp[c3,over]
  · have:q<H1.length:=by omega
    simp[aS,this]
  · have:fa (ws++[s])=.sl 1 (ws.map (fun n=>[CD.s n])++[[.s s]]):=by simp[fa]
    rw[this]
    exact o'.frame fun c hc=>List.getElem?_set_ne (fun e:q=c=>qn (e▸hc))
  · rcases hm2 c hc with g|g
    · exact fr c g
    · omega
  · subst hN
    obtain⟨N',rfl⟩:=pS hl' (fun c h1 h2=>hf' c h1 h2) fr
    refine⟨N'.set (q-h.length) (some (0,[w'])),?_⟩
    rw[List.set_append_right _ _ ql]
  · rw[List.getElem?_set_ne (Ne.symm h3)];exact hf' c h2 h1
theorem Wd.rd{h H:AH}{q:Nat}{ws:List ByteArray}{w:AV}{fp:List Nat}(W:Wd h H q ws w fp)(e:List AV)(L:List (List AV)):(St.mk e L H).cells (.gp q 0 0) 1=some [w]:=by
  simp only[St.cells,W.box,Option.bind_some,if_true];rfl
set_option maxHeartbeats 4000000 in
theorem c6(hΓ:fP Γ)(l:List Int)(hl:l.length≤100)(hi:∀n∈l,i64 n){b g cap:Nat}{ex:Bool}{tail:List AV}{h H:AH}{q:Nat}{ws:List ByteArray}{w:AV}{fp:List Nat}(W:Wd h H q ws w fp)(hw:ws.length≤500)(hb:aS H b=some (g,l.map (AV.int .i64)++tail))(hc:l.length≤cap)(bq:b≠q)(bf:b∉fp):
    T Tryz.prog Γ Fn.IQ [.gs b g 0 l.length cap 1 ex,.gp q 0 0] H fun v H'=>v=.tup []∧∃w' fp',Wd h H' q (ws++l.map aF) w' fp'∧(∀c,c<H.length→c∉fp→c≠q→H'[c]? = H[c]?)∧H.length≤H'.length∧∀c∈fp',c∈fp∨H.length≤c:=by
  have hbl:=cw hb
  refine FZ (ax aB mixed [] _ _ _ ?_)
  unfold Bq
  have lg:gq false (.gs b g 0 l.length cap 1 ex)=some (.int .i64 l.length):=rfl
  simp only[EZ,ag,Nat.reduceAdd,Nat.reduceBEq,o9,gB,EB,lg]
  refine bU aB mixed [] (fun x:Nat×AV×AH×List Nat=>x.1≤l.length∧Wd h x.2.2.1 q (ws++(l.take x.1).map aF) x.2.1 x.2.2.2∧(∀c,c<H.length→c∉fp→c≠q→x.2.2.1[c]? = H[c]?)∧H.length≤x.2.2.1.length∧∀c∈x.2.2.2,c∈fp∨H.length≤c) (fun x=>l.length-x.1)
    (fun x=>qk (.gp q 0 0) (.gs b g 0 l.length cap 1 ex) (.int .i64 l.length) (.int .i64 x.1) ([]:List (List AV)) x.2.2.1) (0,w,H,fp) ⟨by omega,by simpa using W,fun _ _ _ _=>rfl,Nat.le_refl _,fun c hc=>.inl hc⟩ ⟨by simp[qk,cG,cI],rfl,rfl⟩ ?_
  rintro⟨k,w1,H1,f1⟩ ⟨hk,W1,fr1,hl1,m1⟩
  simp only at hk W1 fr1 hl1 m1
  simp only[EZ,ag,Nat.reduceAdd,Nat.reduceBEq,o9,gB,qk,EB]
  refine aR (fun hlt=>?_) (fun hge=>?_)
  rotate_left
  · have:k=l.length:=by simp at hge;omega
    subst this
    rw[List.take_length]at W1
    simp only[EZ,ag,Nat.reduceAdd,Nat.reduceBEq,o9,gB,EB]
    exact⟨rfl,rfl,w1,f1,W1,fr1,hl1,m1⟩
  have hlt:k<l.length:=by simpa using hlt
  have hb1:aS H1 b=some (g,l.map (AV.int .i64)++tail):=by rw[dn (fr1 b hbl bf bq)];exact hb
  have i1:bN 1 (.gs b g 0 l.length cap 1 ex) (k:Int)=some (.gp b g k):=by rw[fW hlt,Nat.zero_add,Nat.mul_one]
  have ld:∀(e:List AV) (L:List (List AV)),(St.mk e L H1).cells (.gp b g k) 1=some [.int .i64 l[k]]:=fun e L=>by
    rw[eN hb1]
    simp only[sub]
    rw[if_pos (by simp;omega),List.drop_append_of_le_length (by simp;omega),List.drop_eq_getElem_cons (by simpa using hlt)]
    simp
  have hfi:=fun h=>Hj hΓ.itoa l[k] (hi _ (List.getElem_mem hlt)) h
  have rd:=W1.rd
  obtain⟨c1,c2,c3,c4⟩:=W1.own.cell
  obtain⟨w2,H2,H3,f2,ea,st,d1,d2,d3,W2,hq,fr2,hl2,m2⟩:=W1.push (aF l[k]) (by simp;omega)
  simp only[EZ,ag,Nat.reduceAdd,Nat.reduceBEq,o9,gB,EB,i1,ld,rd,c1,c2,c3]
  refine an.val (by simp only[EO]) (hfi _) ?_
  simp only[EZ,ag,Nat.reduceAdd,Nat.reduceBEq,o9,gB,EB,EA,rd,c1,c2,c3,ea,d1,d2,d3,st]
  refine⟨(k+1,w2,H3,f2),⟨hlt,?_,fun c h1 h2 h3=>?_,by simp only;omega,fun c hc=>?_⟩,by simp only;omega,⟨by rw[wN (by omega)];simp[qk,cG,cI],rfl,rfl⟩⟩
  · simp only
    rw[List.take_succ_eq_append_getElem hlt,List.map_append,←List.append_assoc];exact W2
  · rw[fr2 c (by omega) (fun hc=>by
      rcases m1 c hc with e|e
      · exact h2 e
      · omega) h3]
    exact fr1 c h1 h2 h3
  · rcases m2 c hc with e|e
    · exact m1 c e
    · exact .inr (by omega)
def oA(l:List Int):List Int:=l.filter fun n=>!decide (n = -1)
theorem xl{H:AH}{b g:Nat}{c d:Int}(hb:aS H b=some (g,[.int .i64 c,.int .i64 d])):bM H (.gs b g 0 2 2 1 true) (.sl 1 ([c,d].map fun n=>[.i .i64 n])) [b]:=by
  have:=bM.sl_mk (h:=H) (b:=b) (g:=g) (cap:=2) (sz:=1) (ex:=true) («as»:=[.int .i64 c,.int .i64 d]) (tail:=[]) (xs:=[c,d].map fun n=>[.i .i64 n]) (fp:=[]) (by simpa using hb) (fun y hy=>by obtain⟨x,_,rfl⟩:=List.mem_map.1 hy;rfl) (by simp) (by simp) (.i (.i .nil))
  simpa using this
set_option maxHeartbeats 4000000 in
theorem rV(c d:Int)(hcd:c = -1→d = -1){H:AH}{b g:Nat}(hb:aS H b=some (g,[.int .i64 c,.int .i64 d])):
    T Tryz.prog Γ Fn.Jx [.gs b g 0 2 2 1 true,.fn Fn.CG [] []] H fun v H'=>v=.gs b g 0 (oA [c,d]).length 2 1 true∧(∃tail,aS H' b=some (g,(oA [c,d]).map (AV.int .i64)++tail))∧H'.length=H.length∧∀x,x≠b→H'[x]? = H[x]?:=by
  have o:=xl hb
  have hbl:=cw hb
  have hidx:∀h,T Tryz.prog Γ Fn.Jt [.vs true 1 false ([c,d].map fun n=>[.int .i64 n]),.fn Fn.CG [] []] h fun v h'=>v=.int .i64 (ik (fun n=>decide (n = -1)) [c,d])∧h'=h:=fun h=>
    fg (P:=Tryz.prog) (Γ:=Γ) aB mixed (sz:=1) (agg:=false) (fun hw=>Hu hw) (β:=true) (l:=[c,d]) (c:=fun n=>[.int .i64 n]) (by simp) (fun x=>by simp[Cz,IJ,bF,aK]) (g:=Fn.CG) (first:=[]) (caps:=[]) rfl (fun n=>decide (n = -1)) (h:=h) (fun x hx=>B7 x _)
  have jB:et H (.gs b g 0 2 2 1 true) (.vs true 1 false ([c,d].map fun n=>[.int .i64 n])):=bM.jB (c:=fun n:Int=>[.int .i64 n]) (cd:=fun n:Int=>[CD.i .i64 n]) (fun n=>by simp[CD.eX]) o
  refine Fa (ax aB mixed [] _ _ _ ?_)
  unfold AZ
  simp only[EZ,ag,Nat.reduceAdd,Nat.reduceBEq,jR]
  refine an.jB (by simp only[EO,bF,aK,bW,List.all_nil,Bool.and_self]) (b6 jB (b6 (.same _) dC)) hidx (.int _ _) ?_
  by_cases hd:d = -1
  rotate_left
  · have hc:¬c = -1:=fun h=>hd (hcd h)
    have e:ik (fun n=>decide (n = -1)) [c,d] = -1:=by simp[ik,List.findIdx?,List.findIdx?.go,hc,hd]
    have ef:oA [c,d]=[c,d]:=by simp[oA,hc,hd]
    rw[e,ef]
    simp only[EZ,ag,Nat.reduceAdd,Nat.reduceBEq,jR,aT,show((-1:Int) == -1)=true from rfl]
    first|exact⟨rfl,rfl,⟨[],by simpa using hb⟩,fun _ _=>trivial⟩|exact⟨rfl,rfl,⟨[],by simpa using hb⟩,rfl,fun _ _=>rfl⟩|exact⟨rfl,⟨[],by simpa using hb⟩,rfl,fun _ _=>rfl⟩|exact⟨⟨[],by simpa using hb⟩,rfl,fun _ _=>rfl⟩
  have key:∃i:Nat,i<2∧ik (fun n=>decide (n = -1)) [c,d]=(i:Int)∧(oA [c,d]).length=i∧∃t,[AV.int .i64 c,.int .i64 d]=(oA [c,d]).map (AV.int .i64)++t∧t.length=2-i:=by
    by_cases hc:c = -1
    · exact⟨0,by omega,by simp[ik,List.findIdx?,List.findIdx?.go,hc],by simp[oA,hc,hd],[AV.int .i64 c,.int .i64 d],by simp[oA,hc,hd],rfl⟩
    · exact⟨1,by omega,by simp[ik,List.findIdx?,List.findIdx?.go,hc,hd],by simp[oA,hc,hd],[.int .i64 d],by simp[oA,hc,hd],rfl⟩
  obtain⟨i,hi,e1,e2,t,e3,e4⟩:=key
  rw[e1,e2]
  have hkm:((i:Int) == -1)=false:=beq_eq_false_iff_ne.2 (by omega)
  have hw1:IntKind.i64.wrap ((i:Int)+1)=((i+1:Nat):Int):=wN (by omega)
  have lg:gq false (.gs b g 0 2 2 1 true)=some (.int .i64 2):=rfl
  simp only[EZ,ag,Nat.reduceAdd,Nat.reduceBEq,jR,aT,hkm]
  rw[hw1]
  refine bU aB mixed [] (fun x:Nat=>i<x∧x≤2) (fun x=>2-x)
    (fun x=>pP (.gs b g 0 2 2 1 true) (.fn Fn.CG [] []) (.int .i64 i) (.int .i64 x) ([]:List (List AV)) H) (i+1) ⟨by omega,by omega⟩ ⟨by simp[pP,cG,cI],rfl,rfl⟩ ?_
  rintro j ⟨j1,j2⟩
  simp only[EZ,ag,Nat.reduceAdd,Nat.reduceBEq,jR,pP,lg]
  refine aR (fun hlt=>?_) (fun hge=>?_)
  · have:j=1:=by simp at hlt;omega
    subst this
    have i1:bN 1 (.gs b g 0 2 2 1 true) ((1:Nat):Int)=some (.gp b g 1):=rfl
    have ld:∀(e:List AV) (L:List (List AV)),(St.mk e L H).cells (.gp b g 1) 1=some [.int .i64 d]:=fun e L=>by rw[eN hb];rfl
    simp only[EZ,ag,Nat.reduceAdd,Nat.reduceBEq,jR,i1,ld]
    refine an.val (by simp only[EO]) (B7 d _) ?_
    simp only[EZ,ag,Nat.reduceAdd,Nat.reduceBEq,jR,decide_eq_true hd]
    exact⟨2,⟨by omega,by omega⟩,by omega,⟨by rw[wN (by omega)];simp[pP,cG,cI],rfl,rfl⟩⟩
  · have hcf:=fun S:St=>uA S (b:=b) (g:=g) (len:=2) (cap:=2) (sz:=1) (ex:=true) (i:=i) (by omega) (by omega)
    have hct:=fun S:St=>yN S (b:=b) (g:=g) (len:=2) (cap:=2) (sz:=1) (ex:=true) (i:=i) (by omega)
    have hcl:∀(e:List AV) (L:List (List AV)),qw ⟨e,L,H⟩ 1 [.int .i64 0] (.gs b g (i*1) (2-i) (2-i) 1 true)=some ⟨e,L,H.set b (some (g,(oA [c,d]).map (AV.int .i64)++List.replicate (2-i) (.int .i64 0)))⟩:=fun e L=>by
      have h0:¬(2-i=0):=by omega
      simp only[qw,if_neg h0,if_true,St.store,hb,Option.bind_some]
      rcases(show i=0∨i=1 by omega)with rfl|rfl
      · rw[List.length_eq_zero_iff.1 e2];rfl
      · obtain⟨x,ex⟩:=List.length_eq_one_iff.1 e2
        rw[ex]at e3 ⊢
        injection e3 with e5 _
        rw[e5];rfl
    simp only[EZ,ag,Nat.reduceAdd,Nat.reduceBEq,jR,gT,pO,Hh,hcf,hct,hcl,AR.vP]
    exact⟨rfl,⟨List.replicate (2-i) (.int .i64 0),by simp[aS,hbl]⟩,by simp,fun x hx=>List.getElem?_set_ne (Ne.symm hx)⟩
theorem Cn(c d:Int)(hcd:c = -1→d = -1){H:AH}{b g:Nat}(hb:aS H b=some (g,[.int .i64 c,.int .i64 d])):
    T Tryz.prog Γ Fn.Ip [.gs b g 0 2 2 1 true] H fun v H'=>v=.gs b g 0 (oA [c,d]).length 2 1 true∧(∃tail,aS H' b=some (g,(oA [c,d]).map (AV.int .i64)++tail))∧H'.length=H.length∧∀x,x≠b→H'[x]? = H[x]?:=by
  refine GD (ax aB mixed [] _ _ _ ?_)
  unfold BI
  simp only[EZ,ag,Nat.reduceAdd,Nat.reduceBEq,vM]
  refine an.ref (by simp only[EO,bF,aK,bW,List.all_nil,Bool.and_self]) (rV c d hcd hb) ?_
  rintro _ H' ⟨rfl,h1,h2,h3⟩
  simp only[EZ,ag,Nat.reduceAdd,Nat.reduceBEq,vM]
  first|exact⟨rfl,rfl,h1,h2,h3⟩|exact⟨rfl,h1,h2,h3⟩|exact⟨h1,h2,h3⟩
end Go.Proofs.YtkepagpkphgpeaaGreatDoor
