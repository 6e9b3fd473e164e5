import Derived.Test.YtkepagpkphgpeaaGreatDoorR6G12
import Derived.Test.YtkepagpkphgpeaaGreatDoorAmG9
import Derived.Test.YtkepagpkphgpeaaGreatDoorAmG10
import Derived.Test.YtkepagpkphgpeaaGreatDoorAmG8
set_option linter.unusedVariables false
set_option linter.unusedSimpArgs false
namespace Go.Proofs.YtkepagpkphgpeaaGreatDoor
open Go.AM
variable {Γ:aZ}
theorem DS(β:Bool)(m:ah)(hm:kR m=true)(ok:m.ok 1000000)(h:AH):T Tryz.prog Γ Fn.JD [.agg (m.c β)] h fun v h'=>v=.bool true∧h'=h:=by
  simp only[kR,Bool.and_eq_true,List.all_eq_true,decide_eq_true_eq]at hm
  obtain⟨m1,m2,m3⟩:=hm
  have L0:=cr β 6 false m.code (aj.c β)
  have i0:=fun k hk=>ct (β:=β) (sz:=6) (ex:=false) (l:=m.code) (ce:=aj.c β) (k:=k) hk
  have hn:=fun h=>wS (Γ:=Γ) m.name (by have:=ok.1;omega) h
  rw[qc,m2]at hn
  refine HD (ax aB mixed [] _ _ _ ?_)
  unfold At
  simp only[EZ,ag,Nat.reduceAdd,Nat.reduceBEq,kF]
  refine bU aB mixed [] (fun k:Nat=>k≤m.code.length) (fun k=>m.code.length-k)
    (fun k=>p6 (.lp ([]:List (List AV)).length 0) (.int .i64 k) (([]:List (List AV))++[m.c β]) h) 0 (by omega) ⟨by simp[p6,cG,cI],rfl,rfl⟩ ?_
  rintro k hk
  simp only[EZ,ag,Nat.reduceAdd,Nat.reduceBEq,kF,p6,EB,ah.c,L0]
  refine aR (fun hlt=>?_) (fun hge=>?_)
  rotate_left
  · simp only[EZ,ag,Nat.reduceAdd,Nat.reduceBEq,kF,EB,L0]
    refine an.val (by simp only[EO]) (hn _) ?_
    have e:((m.code.length:Nat):Int)≤12:=by omega
    simp only[EZ,ag,Nat.reduceAdd,Nat.reduceBEq,kF,EB,L0,decide_eq_true e]
    first|exact⟨rfl,rfl⟩|exact rfl
  have hlt:k<m.code.length:=by simpa using hlt
  have i1:=i0 k hlt
  have b1:=m1 m.code[k] (List.getElem_mem hlt)
  have ok1:=ok.2.2 m.code[k] (List.getElem_mem hlt)
  have hi:=fun h=>vE (Γ:=Γ) m.code[k] (by unfold aj.ok at ok1;omega) h
  rw[b1]at hi
  simp only[aj.c]at hi
  simp only[EZ,ag,Nat.reduceAdd,Nat.reduceBEq,kF,EB,i1,aj.c]
  refine an.val (by simp only[EO]) (hi _) ?_
  simp only[EZ,ag,Nat.reduceAdd,Nat.reduceBEq,kF,EB]
  exact⟨k+1,hlt,by omega,⟨by rw[wN (by omega)];simp[p6,cG,cI],rfl,rfl⟩⟩
theorem tG{l:List ah}(h:wF l=true){i k:Nat}(hi:i<l.length)(hk:k<i):¬(l[k]'(by omega)).name=l[i].name:=by
  have:=List.all_eq_true.1 h i (List.mem_range.2 hi)
  have:=List.all_eq_true.1 this k (List.mem_range.2 hk)
  simp only[decide_eq_true_eq]at this
  rw[List.getElem?_eq_getElem (show k<l.length by omega),List.getElem?_eq_getElem hi]at this
  simpa using this
theorem A7(β:Bool)(s:ae)(hs:sF s=true)(ok:s.ok 1000000)(h:AH):T Tryz.prog Γ Fn.IH [.agg (s.c β)] h fun v h'=>v=.bool true∧h'=h:=by
  simp only[sF,Bool.and_eq_true,List.all_eq_true,decide_eq_true_eq]at hs
  obtain⟨m1,m2,m3,m4⟩:=hs
  have L0:=cr β 2 false s.methods (ah.c β)
  have i0:=fun k hk=>ct (β:=β) (sz:=2) (ex:=false) (l:=s.methods) (ce:=ah.c β) (k:=k) hk
  have hn:=fun h=>wS (Γ:=Γ) s.name (by have:=ok.1;omega) h
  rw[qc,m3]at hn
  refine Ey (ax aB mixed [] _ _ _ ?_)
  unfold Bn
  simp only[EZ,ag,Nat.reduceAdd,Nat.reduceBEq,ie,dw]
  refine bU aB mixed [] (fun k:Nat=>k≤s.methods.length) (fun k=>s.methods.length-k)
    (fun k=>pj (.lp ([]:List (List AV)).length 0) (.int .i64 k) (([]:List (List AV))++[s.c β]) h) 0 (by omega) ⟨by simp[pj,cG,cI],rfl,rfl⟩ ?_
  rintro k hk
  simp only[EZ,ag,Nat.reduceAdd,Nat.reduceBEq,ie,dw,pj,EB,ae.c,L0]
  refine aR (fun hlt=>?_) (fun hge=>?_)
  rotate_left
  · simp only[EZ,ag,Nat.reduceAdd,Nat.reduceBEq,ie,dw,EB,L0]
    refine an.val (by simp only[EO]) (hn _) ?_
    have e:((s.methods.length:Nat):Int)≤4:=by omega
    simp only[EZ,ag,Nat.reduceAdd,Nat.reduceBEq,ie,dw,EB,L0,decide_eq_true e]
    first|exact⟨rfl,rfl⟩|exact rfl
  have hlt:k<s.methods.length:=by simpa using hlt
  have i1:=i0 k hlt
  have hi:=fun h=>DS (Γ:=Γ) β s.methods[k] (m1 _ (List.getElem_mem hlt)) (ok.2.2 _ (List.getElem_mem hlt)) h
  simp only[ah.c]at hi
  simp only[EZ,ag,Nat.reduceAdd,Nat.reduceBEq,ie,dw,EB,i1,ah.c]
  refine an.val (by simp only[EO]) (hi _) ?_
  simp only[EZ,ag,Nat.reduceAdd,Nat.reduceBEq,ie,dw,EB]
  refine bU aB mixed [] (fun j:Nat=>j≤k) (fun j=>k-j)
    (fun j=>ph (.lp ([]:List (List AV)).length 0) (.int .i64 k) (.int .i64 j) (([]:List (List AV))++[s.c β]) h) 0 (by omega) ⟨by simp[ph,cG,cI,ae.c,ah.c],rfl,rfl⟩ ?_
  rintro j hj
  simp only[EZ,ag,Nat.reduceAdd,Nat.reduceBEq,ie,dw,ph,EB,ae.c,L0]
  refine aR (fun hl=>?_) (fun hg=>?_)
  rotate_left
  · simp only[EZ,ag,Nat.reduceAdd,Nat.reduceBEq,ie,dw,EB]
    exact⟨k+1,hlt,by omega,⟨by rw[wN (by omega)];simp[pj,cG,cI,ae.c,ah.c],rfl,rfl⟩⟩
  have hl:j<k:=by simpa using hl
  have j1:=i0 j (by omega)
  have ne:=tG m2 hlt hl
  simp only[EZ,ag,Nat.reduceAdd,Nat.reduceBEq,ie,dw,EB,aT,j1,i1,ah.c,aQ,decide_eq_false ne]
  exact⟨j+1,hl,by omega,⟨by rw[wN (by omega)];simp[ph,cG,cI,ae.c,ah.c],rfl,rfl⟩⟩
theorem E3(β:Bool)(l:List ae)(ln:l.length≤1000000){i:Nat}(hi:i<l.length)(hf:∀k,(hk:k<i)→¬(l[k]'(by omega)).name=l[i].name)(h:AH):T Tryz.prog Γ Fn.JC [.vs β 2 false (l.map (ae.c β)),.str l[i].name] h fun v h'=>v=.int .i64 i∧h'=h:=by
  have L0:=cr β 2 false l (ae.c β)
  have i0:=fun k hk=>ct (β:=β) (sz:=2) (ex:=false) (l:=l) (ce:=ae.c β) (k:=k) hk
  generalize e0:AV.vs β 2 false (l.map (ae.c β))=a0 at *
  refine FR (ax aB mixed [] _ _ _ ?_)
  unfold A8
  simp only[EZ,ag,Nat.reduceAdd,Nat.reduceBEq,rI]
  refine bU aB mixed [] (fun k:Nat=>k≤i) (fun k=>i-k)
    (fun k=>qd a0 (.str l[i].name) (.int .i64 k) ([]:List (List AV)) h) 0 (by omega) ⟨by simp[qd,cG,cI],rfl,rfl⟩ ?_
  rintro k hk
  have lt:((k:Nat):Int)<((l.length:Nat):Int):=by omega
  have i1:=i0 k (by omega)
  simp only[EZ,ag,Nat.reduceAdd,Nat.reduceBEq,rI,qd,EB,L0,decide_eq_true lt,i1,ae.c]
  by_cases e:k=i
  · subst e
    simp only[EZ,ag,Nat.reduceAdd,Nat.reduceBEq,rI,EB,aT,aQ,decide_true]
    first|exact⟨rfl,rfl⟩|exact rfl
  have ne:=hf k (by omega)
  simp only[EZ,ag,Nat.reduceAdd,Nat.reduceBEq,rI,EB,aT,aQ,decide_eq_false ne]
  exact⟨k+1,by omega,by omega,⟨by rw[wN (by omega)];simp[qd,cG,cI],rfl,rfl⟩⟩
theorem sq{l:List ae}(h:uL l=true):(∀s∈l,sF s=true)∧l.length≤6∧∀i k,(hi:i<l.length)→(hk:k<i)→¬(l[k]'(by omega)).name=l[i].name:=by
  simp only[uL,Bool.and_eq_true,decide_eq_true_eq]at h
  obtain⟨⟨a,b⟩,c⟩:=h
  refine⟨fun s hs=>List.all_eq_true.1 a s hs,c,fun i k hi hk=>?_⟩
  have:=List.all_eq_true.1 b i (List.mem_range.2 hi)
  have:=List.all_eq_true.1 this k (List.mem_range.2 hk)
  simp only[decide_eq_true_eq]at this
  rw[List.getElem?_eq_getElem (show k<l.length by omega),List.getElem?_eq_getElem hi]at this
  simpa using this
theorem A6(β:Bool)(l:List ae)(hb:uL l=true)(ok:∀s∈l,s.ok 1000000)(h:AH):T Tryz.prog Γ Fn.Iw [.vs β 2 false (l.map (ae.c β))] h fun v h'=>v=.bool true∧h'=h:=by
  obtain⟨b1,b2,b3⟩:=sq hb
  have L0:=cr β 2 false l (ae.c β)
  have i0:=fun k hk=>ct (β:=β) (sz:=2) (ex:=false) (l:=l) (ce:=ae.c β) (k:=k) hk
  have ff:=fun i hi h=>E3 (Γ:=Γ) β l (by omega) (i:=i) hi (fun k hk=>b3 i k hi hk) h
  have ot:bF (AV.vs β 2 false (l.map (ae.c β)))=true:=rfl
  generalize e0:AV.vs β 2 false (l.map (ae.c β))=a0 at *
  refine FU (ax aB mixed [] _ _ _ ?_)
  unfold Ak
  simp only[EZ,ag,Nat.reduceAdd,Nat.reduceBEq,kO]
  refine bU aB mixed [] (fun k:Nat=>k≤l.length) (fun k=>l.length-k)
    (fun k=>pR a0 (.int .i64 k) ([]:List (List AV)) h) 0 (by omega) ⟨by simp[pR,cG,cI],rfl,rfl⟩ ?_
  rintro k hk
  simp only[EZ,ag,Nat.reduceAdd,Nat.reduceBEq,kO,pR,EB,L0]
  refine aR (fun hlt=>?_) (fun hge=>?_)
  rotate_left
  · have e:((l.length:Nat):Int)≤6:=by omega
    simp only[EZ,ag,Nat.reduceAdd,Nat.reduceBEq,kO,EB,L0,decide_eq_true e]
    first|exact⟨rfl,rfl⟩|exact rfl
  have hlt:k<l.length:=by simpa using hlt
  have i1:=i0 k hlt
  have hi:=fun h=>A7 (Γ:=Γ) β l[k] (b1 _ (List.getElem_mem hlt)) (ok _ (List.getElem_mem hlt)) h
  simp only[ae.c]at hi
  simp only[EZ,ag,Nat.reduceAdd,Nat.reduceBEq,kO,EB,i1,ae.c]
  refine an.val (by simp only[EO]) (hi _) ?_
  simp only[EZ,ag,Nat.reduceAdd,Nat.reduceBEq,kO,EB,i1,ae.c]
  refine an.val (by simp only[EO,ot]) (ff k hlt _) ?_
  simp only[EZ,ag,Nat.reduceAdd,Nat.reduceBEq,kO,EB,aT,aq,ak,decide_true]
  exact⟨k+1,hlt,by omega,⟨by rw[wN (by omega)];simp[pR,cG,cI],rfl,rfl⟩⟩
end Go.Proofs.YtkepagpkphgpeaaGreatDoor
namespace Go.Proofs.YtkepagpkphgpeaaGreatDoor
open Go.AM
variable {Γ:aZ}
def iO:ByteArray:=⟨#[10]⟩
def eJ(c:List aj)(o:ByteArray):ByteArray:=c.foldl (fun o x=>o++eE x++iO) o
def eO(o:ByteArray)(m:ah):ByteArray:=eJ m.code (o++tb aN++m.name++iO)
def ke(s:ae):ByteArray:=s.methods.foldl eO (tb aM++s.name++iO)
theorem rZ{c:List aj}{k:Nat}(hk:k<c.length)(o:ByteArray):eJ (c.take (k+1)) o=eJ (c.take k) o++eE c[k]++iO:=by
  unfold eJ;rw[List.take_succ_eq_append_getElem hk,List.foldl_append];rfl
theorem vm{l:List ah}{k:Nat}(hk:k<l.length)(o:ByteArray):(l.take (k+1)).foldl eO o=eO ((l.take k).foldl eO o) l[k]:=by
  rw[List.take_succ_eq_append_getElem hk,List.foldl_append];rfl
theorem oO(x:aj)(h0:x.name.size≤10)(ha:i64 x.a)(hb:i64 x.b)(hc:i64 x.c_)(hd:i64 x.d):(eE x).size≤200:=by
  have e1:=rn x.op
  have e2:=dt x.a ha
  have e3:=dt x.b hb
  have e4:=dt x.c_ hc
  have e5:=dt x.d hd
  have e6:cQ.size=1:=rfl
  have e7:(tb []).size=0:=rfl
  have eh:(bJ x).size≤40:=by unfold bJ;simp only[ByteArray.size_append];omega
  have tc:∀s:ByteArray,(dG x s).size≤s.size+22:=fun s=>by
    unfold dG;split
    · omega
    · simp only[ByteArray.size_append];omega
  have td:∀s:ByteArray,(tailD x s).size≤s.size+22:=fun s=>by
    unfold tailD;split
    · omega
    · simp only[ByteArray.size_append];omega
  unfold eE
  repeat' split
  · omega
  · omega
  · simp only[ByteArray.size_append];omega
  · have:=td (dG x (bJ x++(cQ++aF x.b)++cQ++x.name))
    have:=tc (bJ x++(cQ++aF x.b)++cQ++x.name)
    simp only[ByteArray.size_append]at *;omega
  · have:=td (dG x (bJ x++cQ++x.name))
    have:=tc (bJ x++cQ++x.name)
    simp only[ByteArray.size_append]at *;omega
  · simp only[ByteArray.size_append];omega
def xj(x:aj):Prop:=x.name.size≤10∧i64 x.a∧i64 x.b∧i64 x.c_∧i64 x.d
def oU(m:ah):Prop:=m.name.size≤10∧m.code.length≤12∧∀x∈m.code,xj x
def js(s:ae):Prop:=s.name.size≤10∧s.methods.length≤4∧∀m∈s.methods,oU m
theorem oU.ok{m:ah}(h:oU m):m.ok 1000000:=⟨by have:=h.1;omega,by have:=h.2.1;omega,fun x hx=>by have:=(h.2.2 x hx).1;unfold aj.ok;omega⟩
theorem js.ok{s:ae}(h:js s):s.ok 1000000:=⟨by have:=h.1;omega,by have:=h.2.1;omega,fun m hm=>(h.2.2 m hm).ok⟩
theorem mw{c:List aj}(h:∀x∈c,xj x):∀o,(eJ c o).size≤o.size+201*c.length:=by
  induction c with
  | nil=>intro o;simp[eJ]
  | cons x c ih=>
    intro o
    have hx:=h x (by simp)
    have e1:=oO x hx.1 hx.2.1 hx.2.2.1 hx.2.2.2.1 hx.2.2.2.2
    have:=ih (fun y hy=>h y (by simp[hy])) (o++eE x++iO)
    have en:iO.size=1:=rfl
    show(eJ c (o++eE x++iO)).size≤_
    simp only[ByteArray.size_append,List.length_cons]at *;omega
theorem sA{m:ah}(h:oU m)(o:ByteArray):(eO o m).size≤o.size+3000:=by
  unfold eO
  have:=mw h.2.2 (o++tb aN++m.name++iO)
  have en:iO.size=1:=rfl
  have ew:(tb aN).size=7:=rfl
  have e1:=h.1
  have e2:=h.2.1
  simp only[ByteArray.size_append]at *;omega
theorem oq{l:List ah}(h:∀m∈l,oU m):∀o:ByteArray,(l.foldl eO o).size≤o.size+3000*l.length:=by
  induction l with
  | nil=>intro o;simp
  | cons m l ih=>
    intro o
    have e1:=sA (h m (by simp)) o
    have:=ih (fun y hy=>h y (by simp[hy])) (eO o m)
    simp only[List.foldl_cons,List.length_cons];omega
theorem oa{s:ae}(h:js s):(ke s).size≤13000:=by
  have:=oq h.2.2 (tb aM++s.name++iO)
  have en:iO.size=1:=rfl
  have ew:(tb aM).size=7:=rfl
  have e1:=h.1
  have e2:=h.2.1
  unfold ke
  simp only[ByteArray.size_append]at this ⊢;omega
set_option maxHeartbeats 16000000 in
theorem H7(β:Bool)(s:ae)(hs:sF s=true)(ok:js s)(h:AH):T Tryz.prog Γ Fn.Jv [.agg (s.c β)] h fun v h'=>v=.str (ke s)∧h'=h:=by
  obtain⟨o1,o2,o3⟩:=ok
  have L0:=cr β 2 false s.methods (ah.c β)
  have i0:=fun k hk=>ct (β:=β) (sz:=2) (ex:=false) (l:=s.methods) (ce:=ah.c β) (k:=k) hk
  have hi:=fun h=>A7 (Γ:=Γ) β s hs (js.ok ⟨o1,o2,o3⟩) h
  simp only[ae.c]at hi
  have q1:(⟨#[10]⟩:ByteArray)=iO:=rfl
  have q2:(⟨#[115,99,114,105,112,116,32]⟩:ByteArray)=tb aM:=rfl
  have q3:(⟨#[109,101,116,104,111,100,32]⟩:ByteArray)=tb aN:=rfl
  have z1:iO.size=1:=rfl
  have z2:(tb aM).size=7:=rfl
  have z3:(tb aN).size=7:=rfl
  have f1:bg .add .num (.str (tb aM)) (.str s.name)=some (.str (tb aM++s.name)):=eY (by omega) (by omega)
  have y1:(tb aM++s.name).size≤20:=by rw[ByteArray.size_append];omega
  have f2:bg .add .num (.str (tb aM++s.name)) (.str iO)=some (.str (tb aM++s.name++iO)):=eY (by omega) (by omega)
  have y2:(tb aM++s.name++iO).size≤30:=by rw[ByteArray.size_append];omega
  refine DM (ax aB mixed [] _ _ _ ?_)
  unfold BX
  simp only[EZ,ag,Nat.reduceAdd,Nat.reduceBEq,hY,EB,ae.c]
  refine an.val (by simp only[EO]) (hi _) ?_
  simp only[EZ,ag,Nat.reduceAdd,Nat.reduceBEq,hY,EB,q1,q2,f1,f2]
  refine bU aB mixed [] (fun k:Nat=>k≤s.methods.length) (fun k=>s.methods.length-k)
    (fun k=>pz (.lp ([]:List (List AV)).length 0) (.str ((s.methods.take k).foldl eO (tb aM++s.name++iO))) (.int .i64 k) (([]:List (List AV))++[s.c β]) h) 0 (by omega) ⟨by simp[pz,cG,cI,ae.c],rfl,rfl⟩ ?_
  rintro k hk
  simp only[EZ,ag,Nat.reduceAdd,Nat.reduceBEq,hY,pz,EB,ae.c,L0]
  refine aR (fun hlt=>?_) (fun hge=>?_)
  rotate_left
  · have:k=s.methods.length:=by simp at hge;omega
    subst this
    rw[List.take_length]
    simp only[EZ,ag,Nat.reduceAdd,Nat.reduceBEq,hY,EB]
    first|exact⟨rfl,rfl⟩|exact rfl
  have hlt:k<s.methods.length:=by simpa using hlt
  have i1:=i0 k hlt
  have mo:=o3 s.methods[k] (List.getElem_mem hlt)
  have yA:((s.methods.take k).foldl eO (tb aM++s.name++iO)).size≤13000:=by
    have:=oq (l:=s.methods.take k) (fun m hm=>o3 m (List.mem_of_mem_take hm)) (tb aM++s.name++iO)
    rw[List.length_take]at this;omega
  have hA:=vm hlt (tb aM++s.name++iO)
  generalize (s.methods.take k).foldl eO (tb aM++s.name++iO)=A at *
  obtain⟨p1,p2,p3⟩:=mo
  have f3:bg .add .num (.str A) (.str (tb aN))=some (.str (A++tb aN)):=eY (by omega) (by omega)
  have y3:(A++tb aN).size≤14000:=by rw[ByteArray.size_append];omega
  have f4:bg .add .num (.str (A++tb aN)) (.str s.methods[k].name)=some (.str (A++tb aN++s.methods[k].name)):=eY (by omega) (by omega)
  have y4:(A++tb aN++s.methods[k].name).size≤15000:=by rw[ByteArray.size_append];omega
  have f5:bg .add .num (.str (A++tb aN++s.methods[k].name)) (.str iO)=some (.str (A++tb aN++s.methods[k].name++iO)):=eY (by omega) (by omega)
  have y5:(A++tb aN++s.methods[k].name++iO).size≤16000:=by rw[ByteArray.size_append];omega
  simp only[EZ,ag,Nat.reduceAdd,Nat.reduceBEq,hY,EB,q1,q3,f3,i1,ah.c,f4,f5]
  have hB:eO A s.methods[k]=eJ s.methods[k].code (A++tb aN++s.methods[k].name++iO):=rfl
  generalize A++tb aN++s.methods[k].name++iO=B at *
  have L1:=cr β 6 false s.methods[k].code (aj.c β)
  have j0:=fun j (hj:j<s.methods[k].code.length)=>ct (β:=β) (sz:=6) (ex:=false) (l:=s.methods[k].code) (ce:=aj.c β) (k:=j) hj
  refine bU aB mixed [] (fun j:Nat=>j≤s.methods[k].code.length) (fun j=>s.methods[k].code.length-j)
    (fun j=>pK (.lp ([]:List (List AV)).length 0) (.str (eJ (s.methods[k].code.take j) B)) (.int .i64 k) (.int .i64 j) (([]:List (List AV))++[s.c β]) h) 0 (by omega) ⟨by simp[pK,cG,cI,ae.c,ah.c,eJ],rfl,rfl⟩ ?_
  rintro j hj
  simp only[EZ,ag,Nat.reduceAdd,Nat.reduceBEq,hY,pK,EB,ae.c,i1,ah.c,L1]
  refine aR (fun hl=>?_) (fun hg=>?_)
  rotate_left
  · have:j=s.methods[k].code.length:=by simp at hg;omega
    subst this
    rw[List.take_length]
    simp only[EZ,ag,Nat.reduceAdd,Nat.reduceBEq,hY,EB]
    exact⟨k+1,hlt,by omega,⟨by rw[wN (by omega),hA,hB];simp[pz,cG,cI,ae.c,ah.c],rfl,rfl⟩⟩
  have hl:j<s.methods[k].code.length:=by simpa using hl
  have j1:=j0 j hl
  obtain⟨x1,x2,x3,x4,x5⟩:=p3 s.methods[k].code[j] (List.getElem_mem hl)
  have yC:(eJ (s.methods[k].code.take j) B).size≤20000:=by
    have:=mw (c:=s.methods[k].code.take j) (fun m hm=>p3 m (List.mem_of_mem_take hm)) B
    rw[List.length_take]at this;omega
  have hC:=rZ hl B
  generalize eJ (s.methods[k].code.take j) B=C at *
  have hf:=fun h=>Ch (Γ:=Γ) s.methods[k].code[j] (by omega) x2 x3 x4 x5 h
  simp only[aj.c]at hf
  have yf:=oO s.methods[k].code[j] x1 x2 x3 x4 x5
  have f6:bg .add .num (.str C) (.str (eE s.methods[k].code[j]))=some (.str (C++eE s.methods[k].code[j])):=eY (by omega) (by omega)
  have y6:(C++eE s.methods[k].code[j]).size≤21000:=by rw[ByteArray.size_append];omega
  have f7:bg .add .num (.str (C++eE s.methods[k].code[j])) (.str iO)=some (.str (C++eE s.methods[k].code[j]++iO)):=eY (by omega) (by omega)
  simp only[EZ,ag,Nat.reduceAdd,Nat.reduceBEq,hY,EB,i1,ah.c,j1,aj.c]
  refine an.val (by simp only[EO]) (hf _) ?_
  simp only[EZ,ag,Nat.reduceAdd,Nat.reduceBEq,hY,EB,q1,f6,f7]
  exact⟨j+1,hl,by omega,⟨by rw[wN (by omega),hC];simp[pK,cG,cI,ae.c,ah.c],rfl,rfl⟩⟩
def dY(l:List ae):ByteArray:=l.foldl (fun o s=>o++ke s) (tb [])
theorem ui{l:List ae}(h:∀s∈l,js s):∀o:ByteArray,(l.foldl (fun o s=>o++ke s) o).size≤o.size+13000*l.length:=by
  induction l with
  | nil=>intro o;simp
  | cons m l ih=>
    intro o
    have e1:=oa (h m (by simp))
    have:=ih (fun y hy=>h y (by simp[hy])) (o++ke m)
    simp only[List.foldl_cons,List.length_cons,ByteArray.size_append]at *;omega
theorem vx{l:List ae}{k:Nat}(hk:k<l.length):dY (l.take (k+1))=dY (l.take k)++ke l[k]:=by
  unfold dY;rw[List.take_succ_eq_append_getElem hk,List.foldl_append];rfl
theorem Hf(β:Bool)(l:List ae)(hb:uL l=true)(ok:∀s∈l,js s)(h:AH):T Tryz.prog Γ Fn.Jn [.vs β 2 false (l.map (ae.c β))] h fun v h'=>v=.str (dY l)∧h'=h:=by
  obtain⟨b1,b2,b3⟩:=sq hb
  have L0:=cr β 2 false l (ae.c β)
  have i0:=fun k hk=>ct (β:=β) (sz:=2) (ex:=false) (l:=l) (ce:=ae.c β) (k:=k) hk
  have hl:=fun h=>A6 (Γ:=Γ) β l hb (fun s hs=>(ok s hs).ok) h
  have ot:bF (AV.vs β 2 false (l.map (ae.c β)))=true:=rfl
  have tn:(⟨#[]⟩:ByteArray)=tb []:=rfl
  generalize e0:AV.vs β 2 false (l.map (ae.c β))=a0 at *
  refine Gi (ax aB mixed [] _ _ _ ?_)
  unfold zf
  simp only[EZ,ag,Nat.reduceAdd,Nat.reduceBEq,lu]
  refine an.val (by simp only[EO,ot]) (hl _) ?_
  simp only[EZ,ag,Nat.reduceAdd,Nat.reduceBEq,lu,EB]
  refine bU aB mixed [] (fun k:Nat=>k≤l.length) (fun k=>l.length-k)
    (fun k=>py a0 (.str (dY (l.take k))) (.int .i64 k) ([]:List (List AV)) h) 0 (by omega) ⟨by simp[py,cG,cI,dY];rfl,rfl,rfl⟩ ?_
  rintro k hk
  simp only[EZ,ag,Nat.reduceAdd,Nat.reduceBEq,lu,py,EB,L0]
  refine aR (fun hlt=>?_) (fun hge=>?_)
  rotate_left
  · have:k=l.length:=by simp at hge;omega
    subst this
    rw[List.take_length]
    simp only[EZ,ag,Nat.reduceAdd,Nat.reduceBEq,lu,EB]
    first|exact⟨rfl,rfl⟩|exact rfl
  have hlt:k<l.length:=by simpa using hlt
  have i1:=i0 k hlt
  have hi:=fun h=>H7 (Γ:=Γ) β l[k] (b1 _ (List.getElem_mem hlt)) (ok _ (List.getElem_mem hlt)) h
  simp only[ae.c]at hi
  have y1:(dY (l.take k)).size≤80000:=by
    have:=ui (l:=l.take k) (fun m hm=>ok m (List.mem_of_mem_take hm)) (tb [])
    rw[List.length_take]at this
    have e:(tb []).size=0:=rfl
    unfold dY;omega
  have y2:=oa (ok _ (List.getElem_mem hlt))
  have f1:bg .add .num (.str (dY (l.take k))) (.str (ke l[k]))=some (.str (dY (l.take k)++ke l[k])):=eY (by omega) (by omega)
  simp only[EZ,ag,Nat.reduceAdd,Nat.reduceBEq,lu,EB,i1,ae.c]
  refine an.val (by simp only[EO]) (hi _) ?_
  simp only[EZ,ag,Nat.reduceAdd,Nat.reduceBEq,lu,EB,f1]
  exact⟨k+1,hlt,by omega,⟨by rw[wN (by omega),vx hlt];simp[py,cG,cI],rfl,rfl⟩⟩
end Go.Proofs.YtkepagpkphgpeaaGreatDoor
namespace Go.Proofs.YtkepagpkphgpeaaGreatDoor
open Go.AM
variable {Γ:aZ}
theorem kC(l:Tx):gq true (.str (tb l))=some (.int .i64 l.length):=by rw[dA,cK]
theorem GS{l:List aC}(hl:l.length≤1000){line:Tx}(h7:7<line.length)(ht:line.take 7=aM){H:AH}{v:AV}{fp:List Nat}(a:vz H v l fp):
    T Tryz.prog Γ Fn.Ds [v,.str (tb line)] H fun r H'=>∃v',r=.tup [v',.bool true]∧l8 H fp H' v' (l++[⟨line.drop 7,[]⟩]):=by
  obtain⟨o,nd⟩:=a
  have L0:=(gW o).2
  have LT:=kC line
  have c1:=fun s=>(kG s line (by omega)).1
  have c2:=fun s=>(kG s line (by omega)).2
  rw[ht]at c1
  have q1:(⟨#[115,99,114,105,112,116,32]⟩:ByteArray)=tb aM:=rfl
  have hlt:((line.length:Nat):Int)>7:=by omega
  obtain⟨v',H',fp',ea,o',nd',hf',hl',hm'⟩:=fk (bytes:=40) o (ys:=[.str (tb (line.drop 7)),.nils]) (row:=uM ⟨line.drop 7,[]⟩) (f2:=[]) (by simpa using nd) (by omega) rfl
    (show aJ H _ [.s _,.sl 2 []] ([]++[]) from .s (.o (.nil _) .nil)) (by simp only[List.length_map,bk];omega)
  obtain⟨a1,a2,a3,a4⟩:=o.cell
  refine uQ (ax aB mixed [] _ _ _ ?_)
  unfold tz
  simp only[EZ,ag,Nat.reduceAdd,Nat.reduceBEq,kX,fH,fS,EB,aT,EA,ER,L0,LT,decide_eq_true hlt,c1,c2,q1,aQ,decide_true,b8,fY,gb,gh,ea]
  obtain⟨n1,n2,n3,n4⟩:=o'.cell
  refine⟨by simp only[List.all_cons,List.all_nil,EO,n4,Bool.and_self],v',rfl,fp',⟨by rw[List.map_append];exact o',nd'⟩,hl',fun c h1 h2=>hf' c h2 h1,fun c hc=>?_⟩
  rcases hm' c hc with q|q|q
  · exact .inl q
  · cases q
  · exact .inr q
theorem gE{l:List aC}{n:Nat}{nm:Tx}{ms:List bA}:(l.set n ⟨nm,ms⟩).map uM=(l.map uM).set n [.s (tb nm),.sl 2 (ms.map sX)]:=by rw[List.map_set];rfl
theorem lU{l:List bA}{n:Nat}{nm:Tx}{ms:List aW}:(l.set n ⟨nm,ms⟩).map sX=(l.map sX).set n [.s (tb nm),.sl 6 (ms.map v7)]:=by rw[List.map_set];rfl
theorem Ja{l:List aC}{n:Nat}(hn:l.length=n+1)(hl:l.length≤1000):IntKind.i64.wrap (((l.map uM).length:Int)-1)=(n:Int):=by
  rw[List.length_map,hn]
  rw[aY (by omega) (by omega)];omega
set_option maxHeartbeats 8000000 in
theorem DC{l:List aC}{n:Nat}(hn:l.length=n+1)(hl:l.length≤1000){line:Tx}(h7:7<line.length)(ht:line.take 7=aN)(hm:(l[n]'(by omega)).methods.length≤1000){H:AH}{v:AV}{fp:List Nat}(a:vz H v l fp):
    T Tryz.prog Γ Fn.Ds [v,.str (tb line)] H fun r H'=>∃v',r=.tup [v',.bool true]∧l8 H fp H' v' (l.set n ⟨(l[n]'(by omega)).name,(l[n]'(by omega)).methods++[⟨line.drop 7,[]⟩]⟩):=by
  obtain⟨o,nd⟩:=a
  have L0:=(gW o).2
  have LT:=kC line
  have c1:=fun s=>(kG s line (by omega)).1
  have c2:=fun s=>(kG s line (by omega)).2
  rw[ht]at c1
  have hlt:((line.length:Nat):Int)>7:=by omega
  have hw:=Ja hn hl
  have hpos:((l.map uM).length:Int)>0:=by rw[List.length_map];omega
  have q1:(⟨#[115,99,114,105,112,116,32]⟩:ByteArray)=tb aM:=rfl
  have q2:(⟨#[109,101,116,104,111,100,32]⟩:ByteArray)=tb aN:=rfl
  have ne:¬tb aN=tb aM:=by decide
  obtain⟨b,g,p,wm,f,iR,_,_,rdm,om,nf,sf,bm,bn,_,close⟩:=o.gR nd (k:=n) (by rw[List.length_map];omega) (nm:=tb (l[n]'(by omega)).name) (sz:=2) (ys:=(l[n]'(by omega)).methods.map sX) (by rw[List.getElem_map];rfl)
  have rd:=fun e L=>rdm H rfl e L
  obtain⟨v',H',fp',ea,o',nd',hf',hl',hm'⟩:=fk (bytes:=40) om (ys:=[.str (tb (line.drop 7)),.nils]) (row:=sX ⟨line.drop 7,[]⟩) (f2:=[]) (by simpa using nf) (by omega) rfl
    (show aJ H _ [.s _,.sl 6 []] ([]++[]) from .s (.o (.nil _) .nil)) (by simp only[List.length_map,bk];omega)
  have hm2:∀c∈fp',c∈f∨H.length≤c:=fun c hc=>by
    rcases hm' c hc with q|q|q
    · exact .inl q
    · cases q
    · exact .inr q
  obtain⟨H2,fp2,st,l2,r2,oF,nF,mF⟩:=close H' v' _ fp' hl' o' nd' hm2 (fun c h1 h2=>hf' c h2 h1)
  obtain⟨a1,a2,a3,a4⟩:=o.cell
  obtain⟨m1,m2,m3,m4⟩:=om.cell
  obtain⟨n1,n2,n3,n4⟩:=o'.cell
  refine uQ (ax aB mixed [] _ _ _ ?_)
  unfold tz
  simp only[EZ,ag,Nat.reduceAdd,Nat.reduceBEq,kX,fH,fS,EB,aT,EA,ER,L0,LT,decide_eq_true hlt,decide_eq_true hpos,c1,c2,q1,q2,aQ,decide_true,decide_eq_false ne,b8,fY,gb,gh,hw,iR,rd,m1,m2,m3,ea,n1,n2,n3,st]
  refine⟨by simp only[List.all_cons,List.all_nil,EO,a4,Bool.and_self],v,rfl,fp2,⟨by rw[gE,List.map_append];exact oF,nF⟩,by omega,fun c h1 h2=>?_,mF⟩
  rw[r2 c (fun e=>h2 (e▸bm)),hf' c (fun h=>h2 (sf c h)) h1]
theorem FT{line:Tx}(h:line∈bc):line.take 7≠aM∧line.take 7≠aN:=by
  have:=(List.mem_filter.1 h).2
  simpa only[Bool.not_eq_true',Bool.or_eq_false_iff,decide_eq_false_iff_not]using this
theorem IZ{n:Nat}(hn:n≤1000):IntKind.i64.wrap (((n+1:Nat):Int)-1)=(n:Int):=by
  rw[aY (by omega) (by omega)];omega
set_option maxHeartbeats 16000000 in
set_option maxRecDepth 10000 in
theorem Eu{l:List aC}{n:Nat}(hn:l.length=n+1)(hl:l.length≤1000){line:Tx}(hc:line∈bc){s:aC}(hs:l[n]'(by omega)=s){k:Nat}(hk:s.methods.length=k+1)(hm:s.methods.length≤1000){m:bA}(hm1:s.methods[k]'(by omega)=m)(hmc:m.code.length≤1000){H:AH}{v:AV}{fp:List Nat}(a:vz H v l fp):
    T Tryz.prog Γ Fn.Ds [v,.str (tb line)] H fun r H'=>∃v',r=.tup [v',.bool true]∧l8 H fp H' v' (l.set n ⟨s.name,s.methods.set k ⟨m.name,m.code++[aX line]⟩⟩):=by
  obtain⟨o,nd⟩:=a
  obtain⟨x1,x2⟩:=FT hc
  have L0:=(gW o).2
  have LT:=kC line
  have hw:=Ja hn hl
  have hne0:¬(((l.map uM).length:Nat):Int)=0:=by rw[List.length_map];omega
  have hpos:((l.map uM).length:Int)>0:=by rw[List.length_map];omega
  have q1:(⟨#[115,99,114,105,112,116,32]⟩:ByteArray)=tb aM:=rfl
  have q2:(⟨#[109,101,116,104,111,100,32]⟩:ByteArray)=tb aN:=rfl
  have hp:=fun h=>Gj (Γ:=Γ) hc h
  obtain⟨b,g,p,wm,f,iR,_,_,rdm,om,nf,sf,bm,bn,closeR,_⟩:=o.gR nd (k:=n) (by rw[List.length_map];omega) (nm:=tb s.name) (sz:=2) (ys:=s.methods.map sX) (by rw[List.getElem_map,hs];rfl)
  have rd:=fun e L=>rdm H rfl e L
  have L1:=(gW om).2
  have hw2:IntKind.i64.wrap (((s.methods.map sX).length:Int)-1)=(k:Int):=by rw[List.length_map,hk];exact IZ (by omega)
  have hmne:¬(((s.methods.map sX).length:Nat):Int)=0:=by rw[List.length_map];omega
  obtain⟨b2,g2,p2,wc,f2,iC,_,_,rdc,oc,nc,sc,bmc,bnc,_,closeC⟩:=om.gR nf (k:=k) (by rw[List.length_map];omega) (nm:=tb m.name) (sz:=6) (ys:=m.code.map v7) (by rw[List.getElem_map,hm1];rfl)
  have rd2:=fun e L=>rdc H rfl e L
  obtain⟨v',H',fp',ea,o',nd',hf',hl',hm'⟩:=fk (bytes:=56) oc (ys:=aV (aX line)) (row:=v7 (aX line)) (f2:=[]) (by simpa using nc) (by omega) rfl
    (show aJ H (aV (aX line)) (v7 (aX line)) [] from .i (.i (.i (.i (.i (.s .nil)))))) (by simp only[List.length_map,bk];omega)
  have hm2:∀c∈fp',c∈f2∨H.length≤c:=fun c hc=>by
    rcases hm' c hc with q|q|q
    · exact .inl q
    · cases q
    · exact .inr q
  obtain⟨H2,fp2,st,l2,r2,oF,nF,mF⟩:=closeC H' v' _ fp' hl' o' nd' hm2 (fun c h1 h2=>hf' c h2 h1)
  have fr2:∀c,c<H.length→c∉f→H2[c]? = H[c]?:=fun c h1 h2=>by
    rw[r2 c (fun e=>h2 (e▸bmc)),hf' c (fun h=>h2 (sc c h)) h1]
  obtain⟨fp3,oG,nG,mG⟩:=closeR H2 _ fp2 (by omega) oF nF mF fr2
  have hb:H'[b]? = (H++[some (0,aV (aX line))])[b]?:=by
    have:=o.lt b bm
    rw[List.getElem?_append_left this,hf' b (fun h=>bn (sc b h)) this]
  have hb2:H'[b2]? = (H++[some (0,aV (aX line))])[b2]?:=by
    have:=om.lt b2 bmc
    rw[List.getElem?_append_left this,hf' b2 bnc this]
  obtain⟨a1,a2,a3,a4⟩:=o.cell
  obtain⟨m1,m2,m3,m4⟩:=om.cell
  obtain⟨n1,n2,n3,n4⟩:=o'.cell
  obtain⟨k1,k2,k3,k4⟩:=oc.cell
  simp only[aV]at hp ea hb hb2
  refine uQ (ax aB mixed [] _ _ _ ?_)
  unfold tz
  by_cases hlt:((line.length:Nat):Int)>7
  · have h7:7≤line.length:=by omega
    have c1:=fun s=>(kG s line h7).1
    have ne1:¬tb (line.take 7)=tb aM:=fun e=>x1 (qj e)
    have ne2:¬tb (line.take 7)=tb aN:=fun e=>x2 (qj e)
    simp only[EZ,ag,Nat.reduceAdd,Nat.reduceBEq,kX,fH,fS,EB,aT,EA,ER,L0,LT,decide_eq_true hlt,decide_eq_true hpos,c1,q1,q2,aQ,decide_eq_false ne1,decide_eq_false ne2]
    refine an.val (by simp only[EO]) (hp _) ?_
    simp only[EZ,ag,Nat.reduceAdd,Nat.reduceBEq,kX,fH,fS,EB,aT,EA,ER,aq,ak,decide_eq_false hne0,L0,hw,iR,rd,L1,hw2,iC,rd2,m1,m2,m3,k1,k2,k3,decide_eq_false hmne,b8,fY,gb,gh,ea,n1,n2,n3,st]
    refine⟨tE fun r hr=>by
      simp only[List.mem_cons,List.not_mem_nil,or_false]at hr
      subst hr;exact .inr ⟨_,_,_,rfl,hb⟩,by simp only[List.all_cons,List.all_nil,EO,a4,Bool.and_self],v,rfl,fp3,⟨by rw[gE,lU,List.map_append];exact oG,nG⟩,by omega,fun c h1 h2=>fr2 c h1 (fun h=>h2 (sf c h)),mG⟩
  · simp only[EZ,ag,Nat.reduceAdd,Nat.reduceBEq,kX,fH,fS,EB,aT,EA,ER,L0,LT,decide_eq_false hlt,decide_eq_true hpos,q1,q2]
    refine an.val (by simp only[EO]) (hp _) ?_
    simp only[EZ,ag,Nat.reduceAdd,Nat.reduceBEq,kX,fH,fS,EB,aT,EA,ER,aq,ak,decide_eq_false hne0,L0,hw,iR,rd,L1,hw2,iC,rd2,m1,m2,m3,k1,k2,k3,decide_eq_false hmne,b8,fY,gb,gh,ea,n1,n2,n3,st]
    refine⟨tE fun r hr=>by
      simp only[List.mem_cons,List.not_mem_nil,or_false]at hr
      subst hr;exact .inr ⟨_,_,_,rfl,hb⟩,by simp only[List.all_cons,List.all_nil,EO,a4,Bool.and_self],v,rfl,fp3,⟨by rw[gE,lU,List.map_append];exact oG,nG⟩,by omega,fun c h1 h2=>fr2 c h1 (fun h=>h2 (sf c h)),mG⟩
end Go.Proofs.YtkepagpkphgpeaaGreatDoor
namespace Go.Proofs.YtkepagpkphgpeaaGreatDoor
open Go.AM
variable {Γ:aZ}
theorem wX{i:Nat}(hi:i<bD):ID i=true:=List.all_eq_true.1 yO i (List.mem_range.2 hi)
theorem G8{i:Nat}(hi:i<bD){H:AH}{v:AV}{fp:List Nat}(a:vz H v (cR i) fp):
    T Tryz.prog Γ Fn.Ds [v,.str (tb (bQ i))] H fun r H'=>∃v',r=.tup [v',.bool true]∧l8 H fp H' v' (cR (i+1)):=by
  have ok:=wX hi
  rw[nC hi]
  unfold ID at ok
  unfold sV
  simp only[Bool.and_eq_true,decide_eq_true_eq]at ok
  obtain⟨h1,h2,h3⟩:=ok
  by_cases c1:(bQ i).take 7=aM
  · rw[if_pos c1]at h3 ⊢
    exact GS (by omega) (by simpa using h3) c1 a
  rw[if_neg c1]at h3 ⊢
  simp only[Bool.and_eq_true,decide_eq_true_eq]at h3
  obtain⟨h4,h5,h6⟩:=h3
  have eS:cT (cR i)=(cR i)[(cR i).length-1]'(by omega):=by
    unfold cT;rw[List.getD_eq_getElem?_getD,List.getElem?_eq_getElem (by omega)];rfl
  by_cases c2:(bQ i).take 7=aN
  · rw[if_pos c2]at h6 ⊢
    rw[eS]at h5 ⊢
    exact DC (n:=(cR i).length-1) (by omega) (by omega) (by simpa using h6) c2 (by omega) a
  rw[if_neg c2]at h6 ⊢
  simp only[Bool.and_eq_true,decide_eq_true_eq]at h6
  obtain⟨h7,h8,h9⟩:=h6
  have eM:(cT (cR i)).methods[(cT (cR i)).methods.length-1]'(by omega)=lY (cT (cR i)):=by
    unfold lY;rw[List.getD_eq_getElem?_getD,List.getElem?_eq_getElem (by omega)];rfl
  exact Eu (n:=(cR i).length-1) (by omega) (by omega) h7 eS.symm (k:=(cT (cR i)).methods.length-1) (by omega) (by omega) eM (by omega) a
theorem ko{s:aC}(hs:s∈eg){m:bA}(hm:m∈s.methods){x:aW}(hx:x∈m.code):∃c∈bc,x=aX c:=by
  have:=List.all_eq_true.1 eA s hs
  simp only[Bool.and_eq_true,List.all_eq_true]at this
  have:=(this.2.2 m hm).2.2 x hx
  simpa using this
theorem vw{x:aW}(h:∃c∈bc,x=aX c):xj x.D∧eE x.D=tb (ga x):=by
  obtain⟨c,hc,rfl⟩:=h
  have hf:=qA hc
  obtain⟨k1,k2,k3,k4,k5,k6,k7,k8,k9,k10,k11,k12⟩:=fc hc
  have d64:∀n:Int,(n = -1∨gN n=true)→i64 n:=fun n h=>by
    rcases h with rfl|h
    · exact⟨by omega,by omega⟩
    · simp only[gN,Bool.and_eq_true,decide_eq_true_eq]at h;exact⟨by omega,by omega⟩
  refine⟨⟨?_,d64 _ (.inr k5),d64 _ (.inr k6),d64 _ k7,d64 _ k8⟩,by rw[hf,k4]⟩
  rw[show(aX c).D.name=tb (aX c).name from rfl,cK];omega
theorem Cy{s:aC}(hs:s∈eg){m:bA}(hm:m∈s.methods):oU m.D:=by
  have:=List.all_eq_true.1 eA s hs
  simp only[Bool.and_eq_true,List.all_eq_true,decide_eq_true_eq]at this
  have t:=this.2.2 m hm
  refine⟨?_,?_,fun x hx=>?_⟩
  · rw[show m.D.name=tb m.name from rfl,cK];omega
  · rw[show m.D.code=m.code.map aW.D from rfl,List.length_map];omega
  · obtain⟨y,hy,rfl⟩:=List.mem_map.1 hx
    exact(vw (ko hs hm hy)).1
theorem Cx{s:aC}(hs:s∈eg):js s.D:=by
  have:=List.all_eq_true.1 eA s hs
  simp only[Bool.and_eq_true,List.all_eq_true,decide_eq_true_eq]at this
  refine⟨?_,?_,fun x hx=>?_⟩
  · rw[show s.D.name=tb s.name from rfl,cK];omega
  · rw[show s.D.methods=s.methods.map bA.D from rfl,List.length_map];omega
  · obtain⟨y,hy,rfl⟩:=List.mem_map.1 hx
    exact Cy hs hy
theorem jg:∀s∈de,js s:=fun s hs=>by
  obtain⟨y,hy,rfl⟩:=List.mem_map.1 hs
  exact Cx hy
theorem rW:iO=tb [10]:=rfl
theorem vd{c:List aW}(h:∀x∈c,eE x.D=tb (ga x)):∀o:Tx,eJ (c.map aW.D) (tb o)=tb (o++(c.map fun x=>ga x++[10]).flatten):=by
  induction c with
  | nil=>intro o;simp[eJ]
  | cons x c ih=>
    intro o
    have e:=ih (fun y hy=>h y (by simp[hy])) (o++ga x++[10])
    show eJ (c.map aW.D) (tb o++eE x.D++iO)=_
    rw[h x (by simp),rW,b7,b7,e]
    congr 1;simp
theorem we{m:bA}(h:∀x∈m.code,eE x.D=tb (ga x))(o:Tx):eO (tb o) m.D=tb (o++(aN++m.name++[10]++(m.code.map fun x=>ga x++[10]).flatten)):=by
  unfold eO
  rw[show m.D.name=tb m.name from rfl,rW,b7,b7,b7,show m.D.code=m.code.map aW.D from rfl,vd h]
  congr 1;simp
theorem w9{l:List bA}(h:∀m∈l,∀x∈m.code,eE x.D=tb (ga x)):∀o:Tx,(l.map bA.D).foldl eO (tb o)=tb (o++(l.map fun m=>aN++m.name++[10]++(m.code.map fun x=>ga x++[10]).flatten).flatten):=by
  induction l with
  | nil=>intro o;simp
  | cons m l ih=>
    intro o
    rw[List.map_cons,List.foldl_cons,we (h m (by simp)),ih (fun y hy=>h y (by simp[hy]))]
    congr 1;simp
theorem yd{s:aC}(hs:s∈eg):ke s.D=tb (fmtS s):=by
  unfold ke
  rw[show s.D.name=tb s.name from rfl,rW,b7,b7,show s.D.methods=s.methods.map bA.D from rfl,w9 (fun m hm x hx=>(vw (ko hs hm hx)).2)]
  rfl
theorem yQ{l:List aC}(h:∀s∈l,s∈eg):∀o:Tx,(l.map aC.D).foldl (fun o s=>o++ke s) (tb o)=tb (o++(l.map fmtS).flatten):=by
  induction l with
  | nil=>intro o;simp
  | cons m l ih=>
    intro o
    rw[List.map_cons,List.foldl_cons,yd (h m (by simp)),b7,ih (fun y hy=>h y (by simp[hy]))]
    congr 1;simp
theorem yL:dY de=tb cD:=by
  unfold dY de
  rw[yQ (fun s h=>h),qY]
  rfl
theorem FW(h:AH):T Tryz.prog Γ Fn.IP [.str (tb cD)] h (ca h [.c (.sl 2 (de.map ae.cd)),.c (.b true)]):=by
  have LT:=kC cD
  have ht:=ta
  have nt:¬((cD.length:Nat):Int)>4000:=by omega
  have hsp:=fun h=>T.CZ (B5 (Γ:=Γ) cD ht 10 h)
  simp only[fa,pG]at hsp
  have L0:=cr false 1 false (ay 10 cD) fun w=>[AV.str (tb w)]
  rw[fQ]at L0
  have i0:∀k,k<bD→bN 1 (.vs false 1 false ((ay 10 cD).map fun w=>[AV.str (tb w)])) (k:Int)=some (.ip false [.str (tb (bQ k))]):=fun k hk=>by
    have hl:k<(ay 10 cD).length:=by rw[fQ];omega
    have e:=ct (β:=false) (sz:=1) (ex:=false) (l:=ay 10 cD) (ce:=fun w=>[AV.str (tb w)]) (k:=k) hl
    have e2:=rF k hk
    rw[List.getElem?_eq_getElem hl,Option.some.injEq]at e2
    rw[e,e2]
  generalize e0:AV.vs false 1 false ((ay 10 cD).map fun w=>[AV.str (tb w)])=a0 at *
  have hn:=oE
  have wl:IntKind.i64.wrap (((bD+1:Nat):Int)-1)=(bD:Int):=IZ (by omega)
  generalize hN:bD=N at *
  refine T.tp rfl ?_
  refine GU (ax aB mixed [] _ _ _ ?_)
  unfold zB
  simp only[EZ,ag,Nat.reduceAdd,Nat.reduceBEq,jk,EB,ER,LT,decide_eq_false nt]
  refine an.val (by simp only[EO]) (hsp _) ?_
  simp only[EZ,ag,Nat.reduceAdd,Nat.reduceBEq,jk,EB,ER,EA]
  refine bU aB mixed [] (fun x:Nat×AV×AH×List Nat=>x.1≤N∧vz x.2.2.1 x.2.1 (cR x.1) x.2.2.2∧(∀c∈x.2.2.2,h.length≤c)∧∃N,x.2.2.1=h++N) (fun x=>N-x.1)
    (fun x=>pg (.str (tb cD)) a0 x.2.1 (.int .i64 x.1) ([]:List (List AV)) x.2.2.1) (0,.gs h.length 0 0 0 0 2 true,h++[some (0,[])],[h.length]) ⟨by omega,⟨lj h 2,by simp⟩,by simp,_,rfl⟩ ⟨by simp[pg,cG,cI],rfl,rfl⟩ ?_
  rintro⟨k,v,H,fp⟩ ⟨hk,la,hfp,M,hM⟩
  simp only at hk la hfp hM
  subst hM
  simp only[EZ,ag,Nat.reduceAdd,Nat.reduceBEq,jk,pg,L0,wl]
  refine aR (fun hlt=>?_) (fun hge=>?_)
  rotate_left
  · have hk:k=N:=by simp at hge;omega
    subst hk
    subst hN
    rw[rH]at la
    obtain⟨o,nd⟩:=la
    obtain⟨a1,a2,a3,a4⟩:=o.cell
    rw[xr]at o
    simp only[EZ,ag,Nat.reduceAdd,Nat.reduceBEq,jk,EB,ER]
    refine an.jB (by simp only[EO,a4]) (b6 (bM.jB (ae.cS true) o) dC) (fun h=>A6 true de ku (fun s hs=>(jg s hs).ok) h) (.bool _) ?_
    simp only[EZ,ag,Nat.reduceAdd,Nat.reduceBEq,jk,EB,ER]
    refine an.jB (by simp only[EO,a4]) (b6 (bM.jB (ae.cS true) o) dC) (fun h=>Hf true de ku jg h) (.str _) ?_
    rw[yL]
    simp only[EZ,ag,Nat.reduceAdd,Nat.reduceBEq,jk,EB,aT,ER,aQ,decide_true]
    exact⟨by simp only[List.all_cons,List.all_nil,EO,a4,Bool.and_self],v,M,fp,rfl,rfl,o,nd,hfp⟩
  have hlt:k<N:=by simpa using hlt
  have i1:=i0 k hlt
  obtain⟨a1,a2,a3,a4⟩:=la.1.cell
  simp only[EZ,ag,Nat.reduceAdd,Nat.reduceBEq,jk,EB,i1]
  refine an.ref (by simp only[EO,a4]) (G8 (by omega) la) ?_
  rintro r H' ⟨v',rfl,fp',la',hl',hf',hm'⟩
  obtain⟨M',rfl⟩:=pS hl' (fun c h1 h2=>hf' c h2 h1) hfp
  simp only[EZ,ag,Nat.reduceAdd,Nat.reduceBEq,jk,EB,ER]
  exact⟨(k+1,v',h++M',fp'),⟨hlt,la',fun c hc=>by
    rcases hm' c hc with q|q
    · exact hfp c q
    · simp at q;omega,M',rfl⟩,by simp only;omega,⟨by rw[wN (by omega)];simp[pg,cG,cI],rfl,rfl⟩⟩
end Go.Proofs.YtkepagpkphgpeaaGreatDoor
namespace Go.Proofs.YtkepagpkphgpeaaGreatDoor
open Go.AM
variable {Γ:aZ}
theorem qQ(n lo hi:Int)(h:AH):T Tryz.prog Γ Fn.xE [.int .i64 n,.int .i64 lo,.int .i64 hi] h fun v h'=>v=.bool (iS n lo hi)∧h'=h:=by
  refine EE (ax aB mixed [] _ _ _ ?_)
  unfold Bh
  simp only[EZ,ag,Nat.reduceAdd,Nat.reduceBEq,vX]
  refine jb (fun h1=>?_) (fun h1=>?_)<;>simp only[EZ,ag,Nat.reduceAdd,Nat.reduceBEq,vX,h1]
  · exact⟨rfl,by simp only[iS,h1,Bool.true_and]⟩
  · exact⟨rfl,by simp only[iS,h1,Bool.false_and]⟩
theorem sM(n:Int)(h:AH):T Tryz.prog Γ Fn.qB [.int .i64 n] h fun v h'=>v=.bool (fB n)∧h'=h:=by
  refine EH (ax aB mixed [] _ _ _ ?_)
  unfold zV
  simp only[EZ,ag,Nat.reduceAdd,Nat.reduceBEq,vB]
  refine an.val (by simp only[EO]) (qQ n 0 7 h) ?_
  simp only[EZ,ag,Nat.reduceAdd,Nat.reduceBEq,vB]
  first|exact⟨rfl,rfl⟩|exact rfl|trivial
theorem xA(v:ByteArray)(hv:v.size≤1048576)(hn:Cq v=true)(h:AH):T Tryz.prog Γ Fn.Dt [.str v] h fun r h'=>r=.bool true∧h'=h:=by
  have hn':=hn
  simp only[Cq,Bool.and_eq_true,decide_eq_true_eq,List.all_eq_true,List.mem_range]at hn'
  obtain⟨⟨n1,n2⟩,n3⟩:=hn'
  have hr:iS (v.size:Int) 1 6=true:=by simp only[iS,Bool.and_eq_true,decide_eq_true_eq];exact⟨n1,n2⟩
  have hin:=fun h=>qQ (Γ:=Γ) (v.size:Int) 1 6 h
  rw[hr]at hin
  refine DB (ax aB mixed [] _ _ _ ?_)
  unfold B8
  simp only[EZ,ag,Nat.reduceAdd,Nat.reduceBEq,nq,dA]
  refine an.val (by simp only[EO]) (hin _) ?_
  simp only[EZ,ag,Nat.reduceAdd,Nat.reduceBEq,nq,dA]
  refine bU aB mixed [] (fun k:Nat=>k≤v.size) (fun k=>v.size-k)
    (fun k=>pn (.str v) (.int .i64 v.size) (.int .i64 k) ([]:List (List AV)) h) 0 (by omega) ⟨by simp[pn,cG,cI],rfl,rfl⟩ ?_
  rintro k hk
  simp only[EZ,ag,Nat.reduceAdd,Nat.reduceBEq,nq,pn,dA]
  refine aR (fun hlt=>?_) (fun hge=>?_)
  rotate_left
  · simp only[EZ,ag,Nat.reduceAdd,Nat.reduceBEq,nq,dA]
    first|exact⟨rfl,rfl⟩|exact rfl|trivial
  have hlt:k<v.size:=by simpa using hlt
  have ix:=fun s:St=>gU s hlt
  obtain⟨b1,b2⟩:=n3 k hlt
  simp only[EZ,ag,Nat.reduceAdd,Nat.reduceBEq,nq,dx,ix,decide_eq_false (show ¬(bP v k:Int)<97 by omega),decide_eq_false (show ¬(bP v k:Int)>122 by omega)]
  exact⟨k+1,hlt,by omega,⟨by rw[wN (by omega)];simp[pn,cG,cI],rfl,rfl⟩⟩
theorem DW(x:aj)(hx:pU x=true)(h:AH):T Tryz.prog Γ Fn.Iy [.int .i64 x.c_,.int .i64 x.d] h fun v h'=>v=.bool true∧h'=h:=by
  refine HG (ax aB mixed [] _ _ _ ?_)
  unfold B1
  simp only[EZ,ag,Nat.reduceAdd,Nat.reduceBEq,oz,aT,ak,aq]
  repeat' (first
    | (guard_target =~ an _ _ Fn.qB _ _ _;refine an.val (by simp only[EO]) (sM _ _) ?_;simp only[EZ,ag,Nat.reduceAdd,Nat.reduceBEq,oz,aT,ak,aq])
    | (refine kZ (fun hh=>?_) (fun hh=>?_)<;>simp only[EZ,ag,Nat.reduceAdd,Nat.reduceBEq,oz,hh,aT,ak,aq])
    | (refine jb (fun hh=>?_) (fun hh=>?_)<;>simp only[EZ,ag,Nat.reduceAdd,Nat.reduceBEq,oz,hh,aT,ak,aq])
    | (refine aR (fun hh=>?_) (fun hh=>?_)<;>simp only[EZ,ag,Nat.reduceAdd,Nat.reduceBEq,oz,hh,aT,ak,aq])
    | (first|(simp_all [pU,zH];done)|(simp_all [pU,zH,fB];done)|(simp_all [pU,zH,fB];omega)))
theorem JT(a b c d e:Int)(n:ByteArray)(a' b' c' d' e':Int)(n':ByteArray):bg .eql (.agg [.int .i64,.int .i64,.int .i64,.int .i64,.int .i64,.str]) (.agg [.int .i64 a,.int .i64 b,.int .i64 c,.int .i64 d,.int .i64 e,.str n]) (.agg [.int .i64 a',.int .i64 b',.int .i64 c',.int .i64 d',.int .i64 e',.str n'])=some (.bool (decide (a=a'∧b=b'∧c=c'∧d=d'∧e=e'∧n=n'))):=by
  simp[bg,gH,lx,rS,Bool.decide_and,ak,aQ]
set_option maxHeartbeats 16000000 in
set_option maxRecDepth 100000 in
theorem zI(x:aj)(hx:dz x=true)(sz:x.name.size≤1000000)(h:AH):T Tryz.prog Γ Fn.IE [.agg (x.c false)] h fun v h'=>v=.bool true∧h'=h:=by
  have tn:(⟨#[]⟩:ByteArray)=tb []:=rfl
  have rA:=fun h=>sM (Γ:=Γ) x.a h
  have rB:=fun h=>sM (Γ:=Γ) x.b h
  have rC:=fun h=>sM (Γ:=Γ) x.c_ h
  have nA:=fun lo hi h=>qQ (Γ:=Γ) x.a lo hi h
  have nB:=fun lo hi h=>qQ (Γ:=Γ) x.b lo hi h
  have hN:=fun hn h=>xA (Γ:=Γ) x.name (by omega) hn h
  have hP:=fun ht h=>DW (Γ:=Γ) x ht h
  have eP:eH x=true→bg .eql (.agg [.int .i64,.int .i64,.int .i64,.int .i64,.int .i64,.str]) (.agg [.int .i64 x.op,.int .i64 x.a,.int .i64 x.b,.int .i64 x.c_,.int .i64 x.d,.str x.name]) (.agg [.int .i64 x.op,.int .i64 x.a,.int .i64 x.b,.int .i64 0,.int .i64 0,.str (tb [])])=some (.bool true):=fun hp=>by
    simp only[eH,Bool.and_eq_true,decide_eq_true_eq]at hp
    obtain⟨p1,p2,p3⟩:=hp
    rw[JT,decide_eq_true ⟨rfl,rfl,rfl,p1,p2,p3⟩]
  refine DT (ax aB mixed [] _ _ _ ?_)
  unfold Am
  simp only[EZ,ag,Nat.reduceAdd,Nat.reduceBEq,bT,aj.c]
  unfold dz at hx
  by_cases e1:x.op=1
  · rw[if_pos e1]at hx
    simp only[Bool.and_eq_true]at hx
    obtain⟨h1,h2,h3⟩:=hx
    have nB':=nB 0 999999
    rw[h2]at rA;rw[show iS x.b 0 999999=true from h3]at nB'
    have e:=eP h1
    simp only[EZ,ag,Nat.reduceAdd,Nat.reduceBEq,bT,EB,aT,ak,aq,decide_eq_true e1,b8,fY,gb,gh,tn,e]
    refine an.val (by simp only[EO]) (rA _) ?_
    simp only[EZ,ag,Nat.reduceAdd,Nat.reduceBEq,bT,EB,aT]
    refine an.val (by simp only[EO]) (nB' _) ?_
    simp only[EZ,ag,Nat.reduceAdd,Nat.reduceBEq,bT,EB,aT]
    first|exact⟨rfl,rfl⟩|exact rfl|trivial
  rw[if_neg e1]at hx
  by_cases e2:x.op=2
  · rw[if_pos e2]at hx
    simp only[Bool.and_eq_true]at hx
    obtain⟨h1,h2,h3⟩:=hx
    have nB':=nB 0 1
    rw[h2]at rA;rw[show iS x.b 0 1=true from h3]at nB'
    have e:=eP h1
    simp only[EZ,ag,Nat.reduceAdd,Nat.reduceBEq,bT,EB,aT,ak,aq,decide_eq_false e1,decide_eq_true e2,b8,fY,gb,gh,tn,e]
    refine an.val (by simp only[EO]) (rA _) ?_
    simp only[EZ,ag,Nat.reduceAdd,Nat.reduceBEq,bT,EB,aT]
    refine an.val (by simp only[EO]) (nB' _) ?_
    simp only[EZ,ag,Nat.reduceAdd,Nat.reduceBEq,bT,EB,aT]
    first|exact⟨rfl,rfl⟩|exact rfl|trivial
  rw[if_neg e2]at hx
  by_cases e3:x.op=3
  · rw[if_pos e3]at hx
    simp only[Bool.and_eq_true]at hx
    obtain⟨h1,h2,h3⟩:=hx
    have nB':=nB 0 2
    rw[h2]at rA;rw[show iS x.b 0 2=true from h3]at nB'
    have e:=eP h1
    simp only[EZ,ag,Nat.reduceAdd,Nat.reduceBEq,bT,EB,aT,ak,aq,decide_eq_false e1,decide_eq_false e2,decide_eq_true e3,b8,fY,gb,gh,tn,e]
    refine an.val (by simp only[EO]) (rA _) ?_
    simp only[EZ,ag,Nat.reduceAdd,Nat.reduceBEq,bT,EB,aT]
    refine an.val (by simp only[EO]) (nB' _) ?_
    simp only[EZ,ag,Nat.reduceAdd,Nat.reduceBEq,bT,EB,aT]
    first|exact⟨rfl,rfl⟩|exact rfl|trivial
  rw[if_neg e3]at hx
  by_cases e4:x.op=4∨x.op=10
  · rw[if_pos e4]at hx
    simp only[Bool.and_eq_true,decide_eq_true_eq]at hx
    obtain⟨h1,h2,h3⟩:=hx
    rw[h2]at rA
    have e:=eP h1
    rw[h3]at e
    by_cases e5:x.op=4
    · simp only[EZ,ag,Nat.reduceAdd,Nat.reduceBEq,bT,EB,aT,ak,aq,decide_eq_false e1,decide_eq_false e2,decide_eq_false e3,decide_eq_true e5,b8,fY,gb,gh,tn,h3,e]
      refine an.val (by simp only[EO]) (rA _) ?_
      simp only[EZ,ag,Nat.reduceAdd,Nat.reduceBEq,bT,EB,aT]
      first|exact⟨rfl,rfl⟩|exact rfl|trivial
    · have e6:=e4.resolve_left e5
      simp only[EZ,ag,Nat.reduceAdd,Nat.reduceBEq,bT,EB,aT,ak,aq,decide_eq_false e1,decide_eq_false e2,decide_eq_false e3,decide_eq_false e5,decide_eq_true e6,b8,fY,gb,gh,tn,h3,e]
      refine an.val (by simp only[EO]) (rA _) ?_
      simp only[EZ,ag,Nat.reduceAdd,Nat.reduceBEq,bT,EB,aT]
      first|exact⟨rfl,rfl⟩|exact rfl|trivial
  rw[if_neg e4]at hx
  have e41:¬x.op=4:=fun e=>e4 (.inl e)
  have e42:¬x.op=10:=fun e=>e4 (.inr e)
  by_cases e5:x.op=5
  · rw[if_pos e5]at hx
    simp only[Bool.and_eq_true,decide_eq_true_eq]at hx
    obtain⟨h1,h2,h3,h4,h5⟩:=hx
    rw[h1]at rA;rw[h2]at rB;rw[h3]at rC
    have e:bg .eql (.agg [.int .i64,.int .i64,.int .i64,.int .i64,.int .i64,.str]) (.agg [.int .i64 x.op,.int .i64 x.a,.int .i64 x.b,.int .i64 x.c_,.int .i64 x.d,.str x.name]) (.agg [.int .i64 x.op,.int .i64 x.a,.int .i64 x.b,.int .i64 x.c_,.int .i64 0,.str (tb [])])=some (.bool true):=by
      rw[JT,decide_eq_true ⟨rfl,rfl,rfl,rfl,h4,h5⟩]
    simp only[EZ,ag,Nat.reduceAdd,Nat.reduceBEq,bT,EB,aT,ak,aq,decide_eq_false e1,decide_eq_false e2,decide_eq_false e3,decide_eq_false e41,decide_eq_false e42,decide_eq_true e5,b8,fY,gb,gh,tn,e]
    refine an.val (by simp only[EO]) (rA _) ?_
    simp only[EZ,ag,Nat.reduceAdd,Nat.reduceBEq,bT,EB,aT]
    refine an.val (by simp only[EO]) (rB _) ?_
    simp only[EZ,ag,Nat.reduceAdd,Nat.reduceBEq,bT,EB,aT]
    refine an.val (by simp only[EO]) (rC _) ?_
    simp only[EZ,ag,Nat.reduceAdd,Nat.reduceBEq,bT,EB,aT]
    first|exact⟨rfl,rfl⟩|exact rfl|trivial
  rw[if_neg e5]at hx
  by_cases e6:x.op=6
  · rw[if_pos e6]at hx
    simp only[Bool.and_eq_true,decide_eq_true_eq]at hx
    obtain⟨h1,h2,h3,h4⟩:=hx
    rw[h1]at rA;rw[h2]at rB
    have hN':=hN h4
    have hP':=hP h3
    simp only[EZ,ag,Nat.reduceAdd,Nat.reduceBEq,bT,EB,aT,ak,aq,decide_eq_false e1,decide_eq_false e2,decide_eq_false e3,decide_eq_false e41,decide_eq_false e42,decide_eq_false e5,decide_eq_true e6]
    refine an.val (by simp only[EO]) (rA _) ?_
    simp only[EZ,ag,Nat.reduceAdd,Nat.reduceBEq,bT,EB,aT]
    refine an.val (by simp only[EO]) (rB _) ?_
    simp only[EZ,ag,Nat.reduceAdd,Nat.reduceBEq,bT,EB,aT]
    refine an.val (by simp only[EO]) (hP' _) ?_
    simp only[EZ,ag,Nat.reduceAdd,Nat.reduceBEq,bT,EB,aT]
    refine an.val (by simp only[EO]) (hN' _) ?_
    simp only[EZ,ag,Nat.reduceAdd,Nat.reduceBEq,bT,EB,aT]
    first|exact⟨rfl,rfl⟩|exact rfl|trivial
  rw[if_neg e6]at hx
  by_cases e7:x.op=7
  · rw[if_pos e7]at hx
    simp only[Bool.and_eq_true,decide_eq_true_eq]at hx
    obtain⟨h1,h2,h3,h4⟩:=hx
    rw[h1]at rA
    have hN':=hN h4
    have hP':=hP h3
    simp only[EZ,ag,Nat.reduceAdd,Nat.reduceBEq,bT,EB,aT,ak,aq,decide_eq_false e1,decide_eq_false e2,decide_eq_false e3,decide_eq_false e41,decide_eq_false e42,decide_eq_false e5,decide_eq_false e6,decide_eq_true e7]
    refine an.val (by simp only[EO]) (rA _) ?_
    simp only[EZ,ag,Nat.reduceAdd,Nat.reduceBEq,bT,EB,aT,ak,decide_eq_true h2]
    refine an.val (by simp only[EO]) (hP' _) ?_
    simp only[EZ,ag,Nat.reduceAdd,Nat.reduceBEq,bT,EB,aT]
    refine an.val (by simp only[EO]) (hN' _) ?_
    simp only[EZ,ag,Nat.reduceAdd,Nat.reduceBEq,bT,EB,aT]
    first|exact⟨rfl,rfl⟩|exact rfl|trivial
  rw[if_neg e7]at hx
  by_cases e8:x.op=8
  · rw[if_pos e8]at hx
    simp only[Bool.and_eq_true]at hx
    obtain⟨h1,h2,h3⟩:=hx
    have nA':=nA 0 2
    rw[h3]at rB;rw[show iS x.a 0 2=true from h2]at nA'
    have e:=eP h1
    simp only[EZ,ag,Nat.reduceAdd,Nat.reduceBEq,bT,EB,aT,ak,aq,decide_eq_false e1,decide_eq_false e2,decide_eq_false e3,decide_eq_false e41,decide_eq_false e42,decide_eq_false e5,decide_eq_false e6,decide_eq_false e7,decide_eq_true e8,b8,fY,gb,gh,tn,e]
    refine an.val (by simp only[EO]) (nA' _) ?_
    simp only[EZ,ag,Nat.reduceAdd,Nat.reduceBEq,bT,EB,aT]
    refine an.val (by simp only[EO]) (rB _) ?_
    simp only[EZ,ag,Nat.reduceAdd,Nat.reduceBEq,bT,EB,aT]
    first|exact⟨rfl,rfl⟩|exact rfl|trivial
  rw[if_neg e8]at hx
  by_cases e9:x.op=9
  · rw[if_pos e9]at hx
    simp only[Bool.and_eq_true]at hx
    obtain⟨h1,h2,h3⟩:=hx
    have nB':=nB 1 12
    rw[h2]at rA;rw[show iS x.b 1 12=true from h3]at nB'
    have e:=eP h1
    simp only[EZ,ag,Nat.reduceAdd,Nat.reduceBEq,bT,EB,aT,ak,aq,decide_eq_false e1,decide_eq_false e2,decide_eq_false e3,decide_eq_false e41,decide_eq_false e42,decide_eq_false e5,decide_eq_false e6,decide_eq_false e7,decide_eq_false e8,decide_eq_true e9,b8,fY,gb,gh,tn,e]
    refine an.val (by simp only[EO]) (rA _) ?_
    simp only[EZ,ag,Nat.reduceAdd,Nat.reduceBEq,bT,EB,aT]
    refine an.val (by simp only[EO]) (nB' _) ?_
    simp only[EZ,ag,Nat.reduceAdd,Nat.reduceBEq,bT,EB,aT]
    first|exact⟨rfl,rfl⟩|exact rfl|trivial
  rw[if_neg e9]at hx
  cases hx
theorem E2(x:aj)(hx:dz x=true)(sz:x.name.size≤1000000)(h:AH):T Tryz.prog Γ Fn.Dr [.agg (x.c false)] h fun v h'=>v=.bool false∧h'=h:=by
  have hi:=fun h=>zI (Γ:=Γ) x hx sz h
  simp only[aj.c]at hi
  refine Et (ax aB mixed [] _ _ _ ?_)
  unfold zz
  simp only[EZ,ag,Nat.reduceAdd,Nat.reduceBEq,vK,EB,aj.c]
  refine an.val (by simp only[EO]) (hi _) ?_
  simp only[EZ,ag,Nat.reduceAdd,Nat.reduceBEq,vK,EB,aT]
  first|exact⟨rfl,rfl⟩|exact rfl|trivial
theorem sx{α:Type}(l:List α):ik (fun _=>false) l = -1:=by
  rcases sE (fun _=>false) l with⟨k,hk,e1,e2,e3⟩|⟨e1,_,_⟩
  · cases e2
  · exact e1
theorem rp(β:Bool)(m:ah)(hm:kR m=true)(ok:m.ok 1000000)(h:AH):T Tryz.prog Γ Fn.JE [.vs β 6 false (m.code.map (aj.c β)),.fn Fn.Dr [] []] h fun v h'=>v=.bool false∧h'=h:=by
  simp only[kR,Bool.and_eq_true,List.all_eq_true,decide_eq_true_eq]at hm
  obtain⟨m1,m2,m3⟩:=hm
  have hidx:∀h,T Tryz.prog Γ Fn.Jp [.vs β 6 false (m.code.map (aj.c β)),.fn Fn.Dr [] []] h fun v h'=>v=.int .i64 (-1)∧h'=h:=fun h=>by
    rw[←sx m.code]
    exact fg (P:=Tryz.prog) (Γ:=Γ) aB mixed (sz:=6) (agg:=true) (fun hw=>F6 hw) (β:=β) (l:=m.code) (c:=aj.c β) (by omega) (fun x=>⟨⟨rfl,.inl rfl⟩,rfl⟩) (g:=Fn.Dr) (first:=[]) (caps:=[]) rfl (fun _=>false) (h:=h) (fun x hx=>E2 x (m1 x hx) (by have:=ok.2.2 x hx;unfold aj.ok at this;omega) _)
  have ot:bF (AV.vs β 6 false (m.code.map (aj.c β)))=true:=rfl
  refine G1 (ax aB mixed [] _ _ _ ?_)
  unfold Bo
  simp only[EZ,ag,Nat.reduceAdd,Nat.reduceBEq,wj]
  refine an.val (by simp only[EO,ot]) (hidx _) ?_
  simp only[EZ,ag,Nat.reduceAdd,Nat.reduceBEq,wj]
  first|exact⟨rfl,rfl⟩|exact rfl|trivial
theorem Es(β:Bool)(m:ah)(hm:kR m=true)(ok:m.ok 1000000)(h:AH):T Tryz.prog Γ Fn.IU [.agg (m.c β)] h fun v h'=>v=.bool true∧h'=h:=by
  have hc:=fun h=>rp (Γ:=Γ) β m hm ok h
  simp only[kR,Bool.and_eq_true,List.all_eq_true,decide_eq_true_eq]at hm
  obtain⟨m1,m2,m3⟩:=hm
  have L0:=cr β 6 false m.code (aj.c β)
  have hn:=fun h=>xA (Γ:=Γ) m.name (by have:=ok.1;omega) m2 h
  have ot:bF (AV.vs β 6 false (m.code.map (aj.c β)))=true:=rfl
  have e:((m.code.length:Nat):Int)≤12:=by omega
  refine FK (ax aB mixed [] _ _ _ ?_)
  unfold BN
  simp only[EZ,ag,Nat.reduceAdd,Nat.reduceBEq,sK,EB,ah.c]
  refine an.val (by simp only[EO]) (hn _) ?_
  simp only[EZ,ag,Nat.reduceAdd,Nat.reduceBEq,sK,EB,L0,decide_eq_true e]
  refine an.val (by simp only[EO,ot]) (hc _) ?_
  simp only[EZ,ag,Nat.reduceAdd,Nat.reduceBEq,sK,EB]
  first|exact⟨rfl,rfl⟩|exact rfl|trivial
end Go.Proofs.YtkepagpkphgpeaaGreatDoor
