import Derived.Test.YtdlbaonelfcahaaGreatDoorR6G14
import Derived.Test.YtdlbaonelfcahaaGreatDoorAmG11
import Derived.Test.YtdlbaonelfcahaaGreatDoorAmG9
set_option linter.unusedVariables false
set_option linter.unusedSimpArgs false
namespace Go.Proofs.YtdlbaonelfcahaaGreatDoor
open Go.AM
variable {Γ:bG}
theorem Lt(β:Bool)(m:aJ)(hm:pN m=true)(ok:m.ok 1000000)(h:AH):T Tryz.prog Γ Fn.WI [.agg (m.c β)] h fun v h'=>v=.bool true∧h'=h:=by
  simp only[pN,Bool.and_eq_true,List.all_eq_true,decide_eq_true_eq]at hm
  obtain⟨m1,m2,m3⟩:=hm
  have L0:=bH β 6 false m.code (aN.c β)
  have i0:=fun k hk=>bW (β:=β) (sz:=6) (ex:=false) (l:=m.code) (ce:=aN.c β) (k:=k) hk
  have hn:=fun h=>Ba (Γ:=Γ) m.name (by have:=ok.1;omega) h
  rw[vh,m2]at hn
  refine SO (au aF mixed [] _ _ _ ?_)
  unfold H6
  simp only[EZ,ah,Nat.reduceAdd,Nat.reduceBEq,pG]
  refine bD aF mixed [] (fun k:Nat=>k≤m.code.length) (fun k=>m.code.length-k)
    (fun k=>vl (.lp ([]:List (List AV)).length 0) (.int .i64 k) (([]:List (List AV))++[m.c β]) h) 0 (by omega) ⟨by simp[vl,cj,ck],rfl,rfl⟩ ?_
  rintro k hk
  simp only[EZ,ah,Nat.reduceAdd,Nat.reduceBEq,pG,vl,EB,aJ.c,L0]
  refine ba (fun hlt=>?_) (fun hge=>?_)
  rotate_left
  · simp only[EZ,ah,Nat.reduceAdd,Nat.reduceBEq,pG,EB,L0]
    refine aq.val (by simp only[EO]) (hn _) ?_
    have e:((m.code.length:Nat):Int)≤12:=by omega
    simp only[EZ,ah,Nat.reduceAdd,Nat.reduceBEq,pG,EB,L0,decide_eq_true e]
    first|exact⟨rfl,rfl⟩|exact rfl
  have hlt:k<m.code.length:=by simpa using hlt
  have i1:=i0 k hlt
  have b1:=m1 m.code[k] (List.getElem_mem hlt)
  have ok1:=ok.2.2 m.code[k] (List.getElem_mem hlt)
  have hi:=fun h=>BO (Γ:=Γ) m.code[k] (by unfold aN.ok at ok1;omega) h
  rw[b1]at hi
  simp only[aN.c]at hi
  simp only[EZ,ah,Nat.reduceAdd,Nat.reduceBEq,pG,EB,i1,aN.c]
  refine aq.val (by simp only[EO]) (hi _) ?_
  simp only[EZ,ah,Nat.reduceAdd,Nat.reduceBEq,pG,EB]
  exact⟨k+1,hlt,by omega,⟨by rw[wN (by omega)];simp[vl,cj,ck],rfl,rfl⟩⟩
theorem zJ{l:List aJ}(h:A4 l=true){i k:Nat}(hi:i<l.length)(hk:k<i):¬(l[k]'(by omega)).name=l[i].name:=by
  have:=List.all_eq_true.1 h i (List.mem_range.2 hi)
  have:=List.all_eq_true.1 this k (List.mem_range.2 hk)
  simp only[decide_eq_true_eq]at this
  rw[List.getElem?_eq_getElem (show k<l.length by omega),List.getElem?_eq_getElem hi]at this
  simpa using this
theorem JW(β:Bool)(s:aB)(hs:ye s=true)(ok:s.ok 1000000)(h:AH):T Tryz.prog Γ Fn.Vy [.agg (s.c β)] h fun v h'=>v=.bool true∧h'=h:=by
  simp only[ye,Bool.and_eq_true,List.all_eq_true,decide_eq_true_eq]at hs
  obtain⟨m1,m2,m3,m4⟩:=hs
  have L0:=bH β 2 false s.methods (aJ.c β)
  have i0:=fun k hk=>bW (β:=β) (sz:=2) (ex:=false) (l:=s.methods) (ce:=aJ.c β) (k:=k) hk
  have hn:=fun h=>Ba (Γ:=Γ) s.name (by have:=ok.1;omega) h
  rw[vh,m3]at hn
  refine Rr (au aF mixed [] _ _ _ ?_)
  unfold EX
  simp only[EZ,ah,Nat.reduceAdd,Nat.reduceBEq,kA,fO]
  refine bD aF mixed [] (fun k:Nat=>k≤s.methods.length) (fun k=>s.methods.length-k)
    (fun k=>uj (.lp ([]:List (List AV)).length 0) (.int .i64 k) (([]:List (List AV))++[s.c β]) h) 0 (by omega) ⟨by simp[uj,cj,ck],rfl,rfl⟩ ?_
  rintro k hk
  simp only[EZ,ah,Nat.reduceAdd,Nat.reduceBEq,kA,fO,uj,EB,aB.c,L0]
  refine ba (fun hlt=>?_) (fun hge=>?_)
  rotate_left
  · simp only[EZ,ah,Nat.reduceAdd,Nat.reduceBEq,kA,fO,EB,L0]
    refine aq.val (by simp only[EO]) (hn _) ?_
    have e:((s.methods.length:Nat):Int)≤4:=by omega
    simp only[EZ,ah,Nat.reduceAdd,Nat.reduceBEq,kA,fO,EB,L0,decide_eq_true e]
    first|exact⟨rfl,rfl⟩|exact rfl
  have hlt:k<s.methods.length:=by simpa using hlt
  have i1:=i0 k hlt
  have hi:=fun h=>Lt (Γ:=Γ) β s.methods[k] (m1 _ (List.getElem_mem hlt)) (ok.2.2 _ (List.getElem_mem hlt)) h
  simp only[aJ.c]at hi
  simp only[EZ,ah,Nat.reduceAdd,Nat.reduceBEq,kA,fO,EB,i1,aJ.c]
  refine aq.val (by simp only[EO]) (hi _) ?_
  simp only[EZ,ah,Nat.reduceAdd,Nat.reduceBEq,kA,fO,EB]
  refine bD aF mixed [] (fun j:Nat=>j≤k) (fun j=>k-j)
    (fun j=>u0 (.lp ([]:List (List AV)).length 0) (.int .i64 k) (.int .i64 j) (([]:List (List AV))++[s.c β]) h) 0 (by omega) ⟨by simp[u0,cj,ck,aB.c,aJ.c],rfl,rfl⟩ ?_
  rintro j hj
  simp only[EZ,ah,Nat.reduceAdd,Nat.reduceBEq,kA,fO,u0,EB,aB.c,L0]
  refine ba (fun hl=>?_) (fun hg=>?_)
  rotate_left
  · simp only[EZ,ah,Nat.reduceAdd,Nat.reduceBEq,kA,fO,EB]
    exact⟨k+1,hlt,by omega,⟨by rw[wN (by omega)];simp[uj,cj,ck,aB.c,aJ.c],rfl,rfl⟩⟩
  have hl:j<k:=by simpa using hl
  have j1:=i0 j (by omega)
  have ne:=zJ m2 hlt hl
  simp only[EZ,ah,Nat.reduceAdd,Nat.reduceBEq,kA,fO,EB,bo,j1,i1,aJ.c,bB,decide_eq_false ne]
  exact⟨j+1,hl,by omega,⟨by rw[wN (by omega)];simp[u0,cj,ck,aB.c,aJ.c],rfl,rfl⟩⟩
theorem Gj(β:Bool)(l:List aB)(ln:l.length≤1000000){i:Nat}(hi:i<l.length)(hf:∀k,(hk:k<i)→¬(l[k]'(by omega)).name=l[i].name)(h:AH):T Tryz.prog Γ Fn.Lk [.vs β 2 false (l.map (aB.c β)),.str l[i].name] h fun v h'=>v=.int .i64 i∧h'=h:=by
  have L0:=bH β 2 false l (aB.c β)
  have i0:=fun k hk=>bW (β:=β) (sz:=2) (ex:=false) (l:=l) (ce:=aB.c β) (k:=k) hk
  generalize e0:AV.vs β 2 false (l.map (aB.c β))=a0 at *
  refine NI (au aF mixed [] _ _ _ ?_)
  unfold E7
  simp only[EZ,ah,Nat.reduceAdd,Nat.reduceBEq,wG]
  refine bD aF mixed [] (fun k:Nat=>k≤i) (fun k=>i-k)
    (fun k=>uK a0 (.str l[i].name) (.int .i64 k) ([]:List (List AV)) h) 0 (by omega) ⟨by simp[uK,cj,ck],rfl,rfl⟩ ?_
  rintro k hk
  have lt:((k:Nat):Int)<((l.length:Nat):Int):=by omega
  have i1:=i0 k (by omega)
  simp only[EZ,ah,Nat.reduceAdd,Nat.reduceBEq,wG,uK,EB,L0,decide_eq_true lt,i1,aB.c]
  by_cases e:k=i
  · subst e
    simp only[EZ,ah,Nat.reduceAdd,Nat.reduceBEq,wG,EB,bo,bB,decide_true]
    first|exact⟨rfl,rfl⟩|exact rfl
  have ne:=hf k (by omega)
  simp only[EZ,ah,Nat.reduceAdd,Nat.reduceBEq,wG,EB,bo,bB,decide_eq_false ne]
  exact⟨k+1,by omega,by omega,⟨by rw[wN (by omega)];simp[uK,cj,ck],rfl,rfl⟩⟩
theorem yo{l:List aB}(h:As l=true):(∀s∈l,ye s=true)∧l.length≤6∧∀i k,(hi:i<l.length)→(hk:k<i)→¬(l[k]'(by omega)).name=l[i].name:=by
  simp only[As,Bool.and_eq_true,decide_eq_true_eq]at h
  obtain⟨⟨a,b⟩,c⟩:=h
  refine⟨fun s hs=>List.all_eq_true.1 a s hs,c,fun i k hi hk=>?_⟩
  have:=List.all_eq_true.1 b i (List.mem_range.2 hi)
  have:=List.all_eq_true.1 this k (List.mem_range.2 hk)
  simp only[decide_eq_true_eq]at this
  rw[List.getElem?_eq_getElem (show k<l.length by omega),List.getElem?_eq_getElem hi]at this
  simpa using this
theorem JU(β:Bool)(l:List aB)(hb:As l=true)(ok:∀s∈l,s.ok 1000000)(h:AH):T Tryz.prog Γ Fn.Vv [.vs β 2 false (l.map (aB.c β))] h fun v h'=>v=.bool true∧h'=h:=by
  obtain⟨b1,b2,b3⟩:=yo hb
  have L0:=bH β 2 false l (aB.c β)
  have i0:=fun k hk=>bW (β:=β) (sz:=2) (ex:=false) (l:=l) (ce:=aB.c β) (k:=k) hk
  have ff:=fun i hi h=>Gj (Γ:=Γ) β l (by omega) (i:=i) hi (fun k hk=>b3 i k hi hk) h
  have ot:bX (AV.vs β 2 false (l.map (aB.c β)))=true:=rfl
  generalize e0:AV.vs β 2 false (l.map (aB.c β))=a0 at *
  refine QU (au aF mixed [] _ _ _ ?_)
  unfold Fl
  simp only[EZ,ah,Nat.reduceAdd,Nat.reduceBEq,o6]
  refine bD aF mixed [] (fun k:Nat=>k≤l.length) (fun k=>l.length-k)
    (fun k=>um a0 (.int .i64 k) ([]:List (List AV)) h) 0 (by omega) ⟨by simp[um,cj,ck],rfl,rfl⟩ ?_
  rintro k hk
  simp only[EZ,ah,Nat.reduceAdd,Nat.reduceBEq,o6,um,EB,L0]
  refine ba (fun hlt=>?_) (fun hge=>?_)
  rotate_left
  · have e:((l.length:Nat):Int)≤6:=by omega
    simp only[EZ,ah,Nat.reduceAdd,Nat.reduceBEq,o6,EB,L0,decide_eq_true e]
    first|exact⟨rfl,rfl⟩|exact rfl
  have hlt:k<l.length:=by simpa using hlt
  have i1:=i0 k hlt
  have hi:=fun h=>JW (Γ:=Γ) β l[k] (b1 _ (List.getElem_mem hlt)) (ok _ (List.getElem_mem hlt)) h
  simp only[aB.c]at hi
  simp only[EZ,ah,Nat.reduceAdd,Nat.reduceBEq,o6,EB,i1,aB.c]
  refine aq.val (by simp only[EO]) (hi _) ?_
  simp only[EZ,ah,Nat.reduceAdd,Nat.reduceBEq,o6,EB,i1,aB.c]
  refine aq.val (by simp only[EO,ot]) (ff k hlt _) ?_
  simp only[EZ,ah,Nat.reduceAdd,Nat.reduceBEq,o6,EB,bo,ay,aE,decide_true]
  exact⟨k+1,hlt,by omega,⟨by rw[wN (by omega)];simp[um,cj,ck],rfl,rfl⟩⟩
end Go.Proofs.YtdlbaonelfcahaaGreatDoor
namespace Go.Proofs.YtdlbaonelfcahaaGreatDoor
open Go.AM
variable {Γ:bG}
def lu:ByteArray:=⟨#[10]⟩
def hD(c:List aN)(o:ByteArray):ByteArray:=c.foldl (fun o x=>o++ig x++lu) o
def ie(o:ByteArray)(m:aJ):ByteArray:=hD m.code (o++tb bz++m.name++lu)
def nY(s:aB):ByteArray:=s.methods.foldl ie (tb bu++s.name++lu)
theorem yj{c:List aN}{k:Nat}(hk:k<c.length)(o:ByteArray):hD (c.take (k+1)) o=hD (c.take k) o++ig c[k]++lu:=by
  unfold hD;rw[List.take_succ_eq_append_getElem hk,List.foldl_append];rfl
theorem CO{l:List aJ}{k:Nat}(hk:k<l.length)(o:ByteArray):(l.take (k+1)).foldl ie o=ie ((l.take k).foldl ie o) l[k]:=by
  rw[List.take_succ_eq_append_getElem hk,List.foldl_append];rfl
theorem rY(x:aN)(h0:x.name.size≤10)(ha:i64 x.a)(hb:i64 x.b)(hc:i64 x.c_)(hd:i64 x.d):(ig x).size≤200:=by
  have e1:=wD x.op
  have e2:=fH x.a ha
  have e3:=fH x.b hb
  have e4:=fH x.c_ hc
  have e5:=fH x.d hd
  have e6:eu.size=1:=rfl
  have e7:(tb []).size=0:=rfl
  have eh:(cK x).size≤40:=by unfold cK;simp only[ByteArray.size_append];omega
  have tc:∀s:ByteArray,(fY x s).size≤s.size+22:=fun s=>by
    unfold fY;split
    · omega
    · simp only[ByteArray.size_append];omega
  have td:∀s:ByteArray,(tailD x s).size≤s.size+22:=fun s=>by
    unfold tailD;split
    · omega
    · simp only[ByteArray.size_append];omega
  unfold ig
  repeat' split
  · omega
  · omega
  · simp only[ByteArray.size_append];omega
  · have:=td (fY x (cK x++(eu++bp x.b)++eu++x.name))
    have:=tc (cK x++(eu++bp x.b)++eu++x.name)
    simp only[ByteArray.size_append]at *;omega
  · have:=td (fY x (cK x++eu++x.name))
    have:=tc (cK x++eu++x.name)
    simp only[ByteArray.size_append]at *;omega
  · simp only[ByteArray.size_append];omega
def BJ(x:aN):Prop:=x.name.size≤10∧i64 x.a∧i64 x.b∧i64 x.c_∧i64 x.d
def tH(m:aJ):Prop:=m.name.size≤10∧m.code.length≤12∧∀x∈m.code,BJ x
def lJ(s:aB):Prop:=s.name.size≤10∧s.methods.length≤4∧∀m∈s.methods,tH m
theorem tH.ok{m:aJ}(h:tH m):m.ok 1000000:=⟨by have:=h.1;omega,by have:=h.2.1;omega,fun x hx=>by have:=(h.2.2 x hx).1;unfold aN.ok;omega⟩
theorem lJ.ok{s:aB}(h:lJ s):s.ok 1000000:=⟨by have:=h.1;omega,by have:=h.2.1;omega,fun m hm=>(h.2.2 m hm).ok⟩
theorem qs{c:List aN}(h:∀x∈c,BJ x):∀o,(hD c o).size≤o.size+201*c.length:=by
  induction c with
  | nil=>intro o;simp[hD]
  | cons x c ih=>
    intro o
    have hx:=h x (by simp)
    have e1:=rY x hx.1 hx.2.1 hx.2.2.1 hx.2.2.2.1 hx.2.2.2.2
    have:=ih (fun y hy=>h y (by simp[hy])) (o++ig x++lu)
    have en:lu.size=1:=rfl
    show(hD c (o++ig x++lu)).size≤_
    simp only[ByteArray.size_append,List.length_cons]at *;omega
theorem ya{m:aJ}(h:tH m)(o:ByteArray):(ie o m).size≤o.size+3000:=by
  unfold ie
  have:=qs h.2.2 (o++tb bz++m.name++lu)
  have en:lu.size=1:=rfl
  have ew:(tb bz).size=7:=rfl
  have e1:=h.1
  have e2:=h.2.1
  simp only[ByteArray.size_append]at *;omega
theorem sW{l:List aJ}(h:∀m∈l,tH m):∀o:ByteArray,(l.foldl ie o).size≤o.size+3000*l.length:=by
  induction l with
  | nil=>intro o;simp
  | cons m l ih=>
    intro o
    have e1:=ya (h m (by simp)) o
    have:=ih (fun y hy=>h y (by simp[hy])) (ie o m)
    simp only[List.foldl_cons,List.length_cons];omega
theorem sU{s:aB}(h:lJ s):(nY s).size≤13000:=by
  have:=sW h.2.2 (tb bu++s.name++lu)
  have en:lu.size=1:=rfl
  have ew:(tb bu).size=7:=rfl
  have e1:=h.1
  have e2:=h.2.1
  unfold nY
  simp only[ByteArray.size_append]at this ⊢;omega
set_option maxHeartbeats 16000000 in
theorem Uc(β:Bool)(s:aB)(hs:ye s=true)(ok:lJ s)(h:AH):T Tryz.prog Γ Fn.WL [.agg (s.c β)] h fun v h'=>v=.str (nY s)∧h'=h:=by
  obtain⟨o1,o2,o3⟩:=ok
  have L0:=bH β 2 false s.methods (aJ.c β)
  have i0:=fun k hk=>bW (β:=β) (sz:=2) (ex:=false) (l:=s.methods) (ce:=aJ.c β) (k:=k) hk
  have hi:=fun h=>JW (Γ:=Γ) β s hs (lJ.ok ⟨o1,o2,o3⟩) h
  simp only[aB.c]at hi
  have q1:(⟨#[10]⟩:ByteArray)=lu:=rfl
  have q2:(⟨#[115,99,114,105,112,116,32]⟩:ByteArray)=tb bu:=rfl
  have q3:(⟨#[109,101,116,104,111,100,32]⟩:ByteArray)=tb bz:=rfl
  have z1:lu.size=1:=rfl
  have z2:(tb bu).size=7:=rfl
  have z3:(tb bz).size=7:=rfl
  have f1:bU .add .num (.str (tb bu)) (.str s.name)=some (.str (tb bu++s.name)):=il (by omega) (by omega)
  have y1:(tb bu++s.name).size≤20:=by rw[ByteArray.size_append];omega
  have f2:bU .add .num (.str (tb bu++s.name)) (.str lu)=some (.str (tb bu++s.name++lu)):=il (by omega) (by omega)
  have y2:(tb bu++s.name++lu).size≤30:=by rw[ByteArray.size_append];omega
  refine TH (au aF mixed [] _ _ _ ?_)
  unfold FZ
  simp only[EZ,ah,Nat.reduceAdd,Nat.reduceBEq,ky,EB,aB.c]
  refine aq.val (by simp only[EO]) (hi _) ?_
  simp only[EZ,ah,Nat.reduceAdd,Nat.reduceBEq,ky,EB,q1,q2,f1,f2]
  refine bD aF mixed [] (fun k:Nat=>k≤s.methods.length) (fun k=>s.methods.length-k)
    (fun k=>uR (.lp ([]:List (List AV)).length 0) (.str ((s.methods.take k).foldl ie (tb bu++s.name++lu))) (.int .i64 k) (([]:List (List AV))++[s.c β]) h) 0 (by omega) ⟨by simp[uR,cj,ck,aB.c],rfl,rfl⟩ ?_
  rintro k hk
  simp only[EZ,ah,Nat.reduceAdd,Nat.reduceBEq,ky,uR,EB,aB.c,L0]
  refine ba (fun hlt=>?_) (fun hge=>?_)
  rotate_left
  · have:k=s.methods.length:=by simp at hge;omega
    subst this
    rw[List.take_length]
    simp only[EZ,ah,Nat.reduceAdd,Nat.reduceBEq,ky,EB]
    first|exact⟨rfl,rfl⟩|exact rfl
  have hlt:k<s.methods.length:=by simpa using hlt
  have i1:=i0 k hlt
  have mo:=o3 s.methods[k] (List.getElem_mem hlt)
  have yA:((s.methods.take k).foldl ie (tb bu++s.name++lu)).size≤13000:=by
    have:=sW (l:=s.methods.take k) (fun m hm=>o3 m (List.mem_of_mem_take hm)) (tb bu++s.name++lu)
    rw[List.length_take]at this;omega
  have hA:=CO hlt (tb bu++s.name++lu)
  generalize (s.methods.take k).foldl ie (tb bu++s.name++lu)=A at *
  obtain⟨p1,p2,p3⟩:=mo
  have f3:bU .add .num (.str A) (.str (tb bz))=some (.str (A++tb bz)):=il (by omega) (by omega)
  have y3:(A++tb bz).size≤14000:=by rw[ByteArray.size_append];omega
  have f4:bU .add .num (.str (A++tb bz)) (.str s.methods[k].name)=some (.str (A++tb bz++s.methods[k].name)):=il (by omega) (by omega)
  have y4:(A++tb bz++s.methods[k].name).size≤15000:=by rw[ByteArray.size_append];omega
  have f5:bU .add .num (.str (A++tb bz++s.methods[k].name)) (.str lu)=some (.str (A++tb bz++s.methods[k].name++lu)):=il (by omega) (by omega)
  have y5:(A++tb bz++s.methods[k].name++lu).size≤16000:=by rw[ByteArray.size_append];omega
  simp only[EZ,ah,Nat.reduceAdd,Nat.reduceBEq,ky,EB,q1,q3,f3,i1,aJ.c,f4,f5]
  have hB:ie A s.methods[k]=hD s.methods[k].code (A++tb bz++s.methods[k].name++lu):=rfl
  generalize A++tb bz++s.methods[k].name++lu=B at *
  have L1:=bH β 6 false s.methods[k].code (aN.c β)
  have j0:=fun j (hj:j<s.methods[k].code.length)=>bW (β:=β) (sz:=6) (ex:=false) (l:=s.methods[k].code) (ce:=aN.c β) (k:=j) hj
  refine bD aF mixed [] (fun j:Nat=>j≤s.methods[k].code.length) (fun j=>s.methods[k].code.length-j)
    (fun j=>uZ (.lp ([]:List (List AV)).length 0) (.str (hD (s.methods[k].code.take j) B)) (.int .i64 k) (.int .i64 j) (([]:List (List AV))++[s.c β]) h) 0 (by omega) ⟨by simp[uZ,cj,ck,aB.c,aJ.c,hD],rfl,rfl⟩ ?_
  rintro j hj
  simp only[EZ,ah,Nat.reduceAdd,Nat.reduceBEq,ky,uZ,EB,aB.c,i1,aJ.c,L1]
  refine ba (fun hl=>?_) (fun hg=>?_)
  rotate_left
  · have:j=s.methods[k].code.length:=by simp at hg;omega
    subst this
    rw[List.take_length]
    simp only[EZ,ah,Nat.reduceAdd,Nat.reduceBEq,ky,EB]
    exact⟨k+1,hlt,by omega,⟨by rw[wN (by omega),hA,hB];simp[uR,cj,ck,aB.c,aJ.c],rfl,rfl⟩⟩
  have hl:j<s.methods[k].code.length:=by simpa using hl
  have j1:=j0 j hl
  obtain⟨x1,x2,x3,x4,x5⟩:=p3 s.methods[k].code[j] (List.getElem_mem hl)
  have yC:(hD (s.methods[k].code.take j) B).size≤20000:=by
    have:=qs (c:=s.methods[k].code.take j) (fun m hm=>p3 m (List.mem_of_mem_take hm)) B
    rw[List.length_take]at this;omega
  have hC:=yj hl B
  generalize hD (s.methods[k].code.take j) B=C at *
  have hf:=fun h=>Gv (Γ:=Γ) s.methods[k].code[j] (by omega) x2 x3 x4 x5 h
  simp only[aN.c]at hf
  have yf:=rY s.methods[k].code[j] x1 x2 x3 x4 x5
  have f6:bU .add .num (.str C) (.str (ig s.methods[k].code[j]))=some (.str (C++ig s.methods[k].code[j])):=il (by omega) (by omega)
  have y6:(C++ig s.methods[k].code[j]).size≤21000:=by rw[ByteArray.size_append];omega
  have f7:bU .add .num (.str (C++ig s.methods[k].code[j])) (.str lu)=some (.str (C++ig s.methods[k].code[j]++lu)):=il (by omega) (by omega)
  simp only[EZ,ah,Nat.reduceAdd,Nat.reduceBEq,ky,EB,i1,aJ.c,j1,aN.c]
  refine aq.val (by simp only[EO]) (hf _) ?_
  simp only[EZ,ah,Nat.reduceAdd,Nat.reduceBEq,ky,EB,q1,f6,f7]
  exact⟨j+1,hl,by omega,⟨by rw[wN (by omega),hC];simp[uZ,cj,ck,aB.c,aJ.c],rfl,rfl⟩⟩
def gE(l:List aB):ByteArray:=l.foldl (fun o s=>o++nY s) (tb [])
theorem Az{l:List aB}(h:∀s∈l,lJ s):∀o:ByteArray,(l.foldl (fun o s=>o++nY s) o).size≤o.size+13000*l.length:=by
  induction l with
  | nil=>intro o;simp
  | cons m l ih=>
    intro o
    have e1:=sU (h m (by simp))
    have:=ih (fun y hy=>h y (by simp[hy])) (o++nY m)
    simp only[List.foldl_cons,List.length_cons,ByteArray.size_append]at *;omega
theorem C7{l:List aB}{k:Nat}(hk:k<l.length):gE (l.take (k+1))=gE (l.take k)++nY l[k]:=by
  unfold gE;rw[List.take_succ_eq_append_getElem hk,List.foldl_append];rfl
theorem Qp(β:Bool)(l:List aB)(hb:As l=true)(ok:∀s∈l,lJ s)(h:AH):T Tryz.prog Γ Fn.VR [.vs β 2 false (l.map (aB.c β))] h fun v h'=>v=.str (gE l)∧h'=h:=by
  obtain⟨b1,b2,b3⟩:=yo hb
  have L0:=bH β 2 false l (aB.c β)
  have i0:=fun k hk=>bW (β:=β) (sz:=2) (ex:=false) (l:=l) (ce:=aB.c β) (k:=k) hk
  have hl:=fun h=>JU (Γ:=Γ) β l hb (fun s hs=>(ok s hs).ok) h
  have ot:bX (AV.vs β 2 false (l.map (aB.c β)))=true:=rfl
  have tn:(⟨#[]⟩:ByteArray)=tb []:=rfl
  generalize e0:AV.vs β 2 false (l.map (aB.c β))=a0 at *
  refine OL (au aF mixed [] _ _ _ ?_)
  unfold HT
  simp only[EZ,ah,Nat.reduceAdd,Nat.reduceBEq,pr]
  refine aq.val (by simp only[EO,ot]) (hl _) ?_
  simp only[EZ,ah,Nat.reduceAdd,Nat.reduceBEq,pr,EB]
  refine bD aF mixed [] (fun k:Nat=>k≤l.length) (fun k=>l.length-k)
    (fun k=>va a0 (.str (gE (l.take k))) (.int .i64 k) ([]:List (List AV)) h) 0 (by omega) ⟨by simp[va,cj,ck,gE];rfl,rfl,rfl⟩ ?_
  rintro k hk
  simp only[EZ,ah,Nat.reduceAdd,Nat.reduceBEq,pr,va,EB,L0]
  refine ba (fun hlt=>?_) (fun hge=>?_)
  rotate_left
  · have:k=l.length:=by simp at hge;omega
    subst this
    rw[List.take_length]
    simp only[EZ,ah,Nat.reduceAdd,Nat.reduceBEq,pr,EB]
    first|exact⟨rfl,rfl⟩|exact rfl
  have hlt:k<l.length:=by simpa using hlt
  have i1:=i0 k hlt
  have hi:=fun h=>Uc (Γ:=Γ) β l[k] (b1 _ (List.getElem_mem hlt)) (ok _ (List.getElem_mem hlt)) h
  simp only[aB.c]at hi
  have y1:(gE (l.take k)).size≤80000:=by
    have:=Az (l:=l.take k) (fun m hm=>ok m (List.mem_of_mem_take hm)) (tb [])
    rw[List.length_take]at this
    have e:(tb []).size=0:=rfl
    unfold gE;omega
  have y2:=sU (ok _ (List.getElem_mem hlt))
  have f1:bU .add .num (.str (gE (l.take k))) (.str (nY l[k]))=some (.str (gE (l.take k)++nY l[k])):=il (by omega) (by omega)
  simp only[EZ,ah,Nat.reduceAdd,Nat.reduceBEq,pr,EB,i1,aB.c]
  refine aq.val (by simp only[EO]) (hi _) ?_
  simp only[EZ,ah,Nat.reduceAdd,Nat.reduceBEq,pr,EB,f1]
  exact⟨k+1,hlt,by omega,⟨by rw[wN (by omega),C7 hlt];simp[va,cj,ck],rfl,rfl⟩⟩
end Go.Proofs.YtdlbaonelfcahaaGreatDoor
namespace Go.Proofs.YtdlbaonelfcahaaGreatDoor
open Go.AM
variable {Γ:bG}
theorem qA(l:Tx):fu true (.str (tb l))=some (.int .i64 l.length):=by rw[fT,dV]
theorem TQ{l:List bj}(hl:l.length≤1000){line:Tx}(h7:7<line.length)(ht:line.take 7=bu){H:AH}{v:AV}{fp:List Nat}(a:Cg H v l fp):
    T Tryz.prog Γ Fn.Lb [v,.str (tb line)] H fun r H'=>∃v',r=.tup [v',.bool true]∧qc H fp H' v' (l++[⟨line.drop 7,[]⟩]):=by
  obtain⟨o,nd⟩:=a
  have L0:=(gM o).2
  have LT:=qA line
  have c1:=fun s=>(qC s line (by omega)).1
  have c2:=fun s=>(qC s line (by omega)).2
  rw[ht]at c1
  have q1:(⟨#[115,99,114,105,112,116,32]⟩:ByteArray)=tb bu:=rfl
  have hlt:((line.length:Nat):Int)>7:=by omega
  obtain⟨v',H',fp',ea,o',nd',hf',hl',hm'⟩:=dz (bytes:=40) o (ys:=[.str (tb (line.drop 7)),.nils]) (row:=Av ⟨line.drop 7,[]⟩) (f2:=[]) (by simpa using nd) (by omega) rfl
    (show aV H _ [.s _,.sl 2 []] ([]++[]) from .s (.o (.nil _) .nil)) (by simp only[List.length_map,aX];omega)
  obtain⟨a1,a2,a3,a4⟩:=o.cell
  refine BR (au aF mixed [] _ _ _ ?_)
  unfold yU
  simp only[EZ,ah,Nat.reduceAdd,Nat.reduceBEq,qk,je,iS,EB,bo,EA,ER,L0,LT,decide_eq_true hlt,c1,c2,q1,bB,decide_true,dc,ji,jg,jn,ea]
  obtain⟨n1,n2,n3,n4⟩:=o'.cell
  refine⟨by simp only[List.all_cons,List.all_nil,EO,n4,Bool.and_self],v',rfl,fp',⟨by rw[List.map_append];exact o',nd'⟩,hl',fun c h1 h2=>hf' c h2 h1,fun c hc=>?_⟩
  rcases hm' c hc with q|q|q
  · exact .inl q
  · cases q
  · exact .inr q
theorem jN{l:List bj}{n:Nat}{nm:Tx}{ms:List cD}:(l.set n ⟨nm,ms⟩).map Av=(l.map Av).set n [.s (tb nm),.sl 2 (ms.map zi)]:=by rw[List.map_set];rfl
theorem pS{l:List cD}{n:Nat}{nm:Tx}{ms:List bJ}:(l.set n ⟨nm,ms⟩).map zi=(l.map zi).set n [.s (tb nm),.sl 6 (ms.map A6)]:=by rw[List.map_set];rfl
theorem Wi{l:List bj}{n:Nat}(hn:l.length=n+1)(hl:l.length≤1000):IntKind.i64.wrap (((l.map Av).length:Int)-1)=(n:Int):=by
  rw[List.length_map,hn]
  rw[aI (by omega) (by omega)];omega
set_option maxHeartbeats 8000000 in
theorem Pq{l:List bj}{n:Nat}(hn:l.length=n+1)(hl:l.length≤1000){line:Tx}(h7:7<line.length)(ht:line.take 7=bz)(hm:(l[n]'(by omega)).methods.length≤1000){H:AH}{v:AV}{fp:List Nat}(a:Cg H v l fp):
    T Tryz.prog Γ Fn.Lb [v,.str (tb line)] H fun r H'=>∃v',r=.tup [v',.bool true]∧qc H fp H' v' (l.set n ⟨(l[n]'(by omega)).name,(l[n]'(by omega)).methods++[⟨line.drop 7,[]⟩]⟩):=by
  obtain⟨o,nd⟩:=a
  have L0:=(gM o).2
  have LT:=qA line
  have c1:=fun s=>(qC s line (by omega)).1
  have c2:=fun s=>(qC s line (by omega)).2
  rw[ht]at c1
  have hlt:((line.length:Nat):Int)>7:=by omega
  have hw:=Wi hn hl
  have hpos:((l.map Av).length:Int)>0:=by rw[List.length_map];omega
  have q1:(⟨#[115,99,114,105,112,116,32]⟩:ByteArray)=tb bu:=rfl
  have q2:(⟨#[109,101,116,104,111,100,32]⟩:ByteArray)=tb bz:=rfl
  have ne:¬tb bz=tb bu:=by decide
  obtain⟨b,g,p,wm,f,iR,_,_,rdm,om,nf,sf,bm,bn,_,close⟩:=o.kh nd (k:=n) (by rw[List.length_map];omega) (nm:=tb (l[n]'(by omega)).name) (sz:=2) (ys:=(l[n]'(by omega)).methods.map zi) (by rw[List.getElem_map];rfl)
  have rd:=fun e L=>rdm H rfl e L
  obtain⟨v',H',fp',ea,o',nd',hf',hl',hm'⟩:=dz (bytes:=40) om (ys:=[.str (tb (line.drop 7)),.nils]) (row:=zi ⟨line.drop 7,[]⟩) (f2:=[]) (by simpa using nf) (by omega) rfl
    (show aV H _ [.s _,.sl 6 []] ([]++[]) from .s (.o (.nil _) .nil)) (by simp only[List.length_map,aX];omega)
  have hm2:∀c∈fp',c∈f∨H.length≤c:=fun c hc=>by
    rcases hm' c hc with q|q|q
    · exact .inl q
    · cases q
    · exact .inr q
  obtain⟨H2,fp2,st,l2,r2,oF,nF,mF⟩:=close H' v' _ fp' hl' o' nd' hm2 (fun c h1 h2=>hf' c h2 h1)
  obtain⟨a1,a2,a3,a4⟩:=o.cell
  obtain⟨m1,m2,m3,m4⟩:=om.cell
  obtain⟨n1,n2,n3,n4⟩:=o'.cell
  refine BR (au aF mixed [] _ _ _ ?_)
  unfold yU
  simp only[EZ,ah,Nat.reduceAdd,Nat.reduceBEq,qk,je,iS,EB,bo,EA,ER,L0,LT,decide_eq_true hlt,decide_eq_true hpos,c1,c2,q1,q2,bB,decide_true,decide_eq_false ne,dc,ji,jg,jn,hw,iR,rd,m1,m2,m3,ea,n1,n2,n3,st]
  refine⟨by simp only[List.all_cons,List.all_nil,EO,a4,Bool.and_self],v,rfl,fp2,⟨by rw[jN,List.map_append];exact oF,nF⟩,by omega,fun c h1 h2=>?_,mF⟩
  rw[r2 c (fun e=>h2 (e▸bm)),hf' c (fun h=>h2 (sf c h)) h1]
theorem P1{line:Tx}(h:line∈bZ):line.take 7≠bu∧line.take 7≠bz:=by
  have:=(List.mem_filter.1 h).2
  simpa only[Bool.not_eq_true',Bool.or_eq_false_iff,decide_eq_false_iff_not]using this
theorem Xj{n:Nat}(hn:n≤1000):IntKind.i64.wrap (((n+1:Nat):Int)-1)=(n:Int):=by
  rw[aI (by omega) (by omega)];omega
set_option maxHeartbeats 16000000 in
set_option maxRecDepth 10000 in
theorem RG{l:List bj}{n:Nat}(hn:l.length=n+1)(hl:l.length≤1000){line:Tx}(hc:line∈bZ){s:bj}(hs:l[n]'(by omega)=s){k:Nat}(hk:s.methods.length=k+1)(hm:s.methods.length≤1000){m:cD}(hm1:s.methods[k]'(by omega)=m)(hmc:m.code.length≤1000){H:AH}{v:AV}{fp:List Nat}(a:Cg H v l fp):
    T Tryz.prog Γ Fn.Lb [v,.str (tb line)] H fun r H'=>∃v',r=.tup [v',.bool true]∧qc H fp H' v' (l.set n ⟨s.name,s.methods.set k ⟨m.name,m.code++[bM line]⟩⟩):=by
  obtain⟨o,nd⟩:=a
  obtain⟨x1,x2⟩:=P1 hc
  have L0:=(gM o).2
  have LT:=qA line
  have hw:=Wi hn hl
  have hne0:¬(((l.map Av).length:Nat):Int)=0:=by rw[List.length_map];omega
  have hpos:((l.map Av).length:Int)>0:=by rw[List.length_map];omega
  have q1:(⟨#[115,99,114,105,112,116,32]⟩:ByteArray)=tb bu:=rfl
  have q2:(⟨#[109,101,116,104,111,100,32]⟩:ByteArray)=tb bz:=rfl
  have hp:=fun h=>Qh (Γ:=Γ) hc h
  obtain⟨b,g,p,wm,f,iR,_,_,rdm,om,nf,sf,bm,bn,closeR,_⟩:=o.kh nd (k:=n) (by rw[List.length_map];omega) (nm:=tb s.name) (sz:=2) (ys:=s.methods.map zi) (by rw[List.getElem_map,hs];rfl)
  have rd:=fun e L=>rdm H rfl e L
  have L1:=(gM om).2
  have hw2:IntKind.i64.wrap (((s.methods.map zi).length:Int)-1)=(k:Int):=by rw[List.length_map,hk];exact Xj (by omega)
  have hmne:¬(((s.methods.map zi).length:Nat):Int)=0:=by rw[List.length_map];omega
  obtain⟨b2,g2,p2,wc,f2,iC,_,_,rdc,oc,nc,sc,bmc,bnc,_,closeC⟩:=om.kh nf (k:=k) (by rw[List.length_map];omega) (nm:=tb m.name) (sz:=6) (ys:=m.code.map A6) (by rw[List.getElem_map,hm1];rfl)
  have rd2:=fun e L=>rdc H rfl e L
  obtain⟨v',H',fp',ea,o',nd',hf',hl',hm'⟩:=dz (bytes:=56) oc (ys:=bI (bM line)) (row:=A6 (bM line)) (f2:=[]) (by simpa using nc) (by omega) rfl
    (show aV H (bI (bM line)) (A6 (bM line)) [] from .i (.i (.i (.i (.i (.s .nil)))))) (by simp only[List.length_map,aX];omega)
  have hm2:∀c∈fp',c∈f2∨H.length≤c:=fun c hc=>by
    rcases hm' c hc with q|q|q
    · exact .inl q
    · cases q
    · exact .inr q
  obtain⟨H2,fp2,st,l2,r2,oF,nF,mF⟩:=closeC H' v' _ fp' hl' o' nd' hm2 (fun c h1 h2=>hf' c h2 h1)
  have fr2:∀c,c<H.length→c∉f→H2[c]? = H[c]?:=fun c h1 h2=>by
    rw[r2 c (fun e=>h2 (e▸bmc)),hf' c (fun h=>h2 (sc c h)) h1]
  obtain⟨fp3,oG,nG,mG⟩:=closeR H2 _ fp2 (by omega) oF nF mF fr2
  have hb:H'[b]? = (H++[some (0,bI (bM line))])[b]?:=by
    have:=o.lt b bm
    rw[List.getElem?_append_left this,hf' b (fun h=>bn (sc b h)) this]
  have hb2:H'[b2]? = (H++[some (0,bI (bM line))])[b2]?:=by
    have:=om.lt b2 bmc
    rw[List.getElem?_append_left this,hf' b2 bnc this]
  obtain⟨a1,a2,a3,a4⟩:=o.cell
  obtain⟨m1,m2,m3,m4⟩:=om.cell
  obtain⟨n1,n2,n3,n4⟩:=o'.cell
  obtain⟨k1,k2,k3,k4⟩:=oc.cell
  simp only[bI]at hp ea hb hb2
  refine BR (au aF mixed [] _ _ _ ?_)
  unfold yU
  by_cases hlt:((line.length:Nat):Int)>7
  · have h7:7≤line.length:=by omega
    have c1:=fun s=>(qC s line h7).1
    have ne1:¬tb (line.take 7)=tb bu:=fun e=>x1 (vy e)
    have ne2:¬tb (line.take 7)=tb bz:=fun e=>x2 (vy e)
    simp only[EZ,ah,Nat.reduceAdd,Nat.reduceBEq,qk,je,iS,EB,bo,EA,ER,L0,LT,decide_eq_true hlt,decide_eq_true hpos,c1,q1,q2,bB,decide_eq_false ne1,decide_eq_false ne2]
    refine aq.val (by simp only[EO]) (hp _) ?_
    simp only[EZ,ah,Nat.reduceAdd,Nat.reduceBEq,qk,je,iS,EB,bo,EA,ER,ay,aE,decide_eq_false hne0,L0,hw,iR,rd,L1,hw2,iC,rd2,m1,m2,m3,k1,k2,k3,decide_eq_false hmne,dc,ji,jg,jn,ea,n1,n2,n3,st]
    refine⟨zF fun r hr=>by
      simp only[List.mem_cons,List.not_mem_nil,or_false]at hr
      subst hr;exact .inr ⟨_,_,_,rfl,hb⟩,by simp only[List.all_cons,List.all_nil,EO,a4,Bool.and_self],v,rfl,fp3,⟨by rw[jN,pS,List.map_append];exact oG,nG⟩,by omega,fun c h1 h2=>fr2 c h1 (fun h=>h2 (sf c h)),mG⟩
  · simp only[EZ,ah,Nat.reduceAdd,Nat.reduceBEq,qk,je,iS,EB,bo,EA,ER,L0,LT,decide_eq_false hlt,decide_eq_true hpos,q1,q2]
    refine aq.val (by simp only[EO]) (hp _) ?_
    simp only[EZ,ah,Nat.reduceAdd,Nat.reduceBEq,qk,je,iS,EB,bo,EA,ER,ay,aE,decide_eq_false hne0,L0,hw,iR,rd,L1,hw2,iC,rd2,m1,m2,m3,k1,k2,k3,decide_eq_false hmne,dc,ji,jg,jn,ea,n1,n2,n3,st]
    refine⟨zF fun r hr=>by
      simp only[List.mem_cons,List.not_mem_nil,or_false]at hr
      subst hr;exact .inr ⟨_,_,_,rfl,hb⟩,by simp only[List.all_cons,List.all_nil,EO,a4,Bool.and_self],v,rfl,fp3,⟨by rw[jN,pS,List.map_append];exact oG,nG⟩,by omega,fun c h1 h2=>fr2 c h1 (fun h=>h2 (sf c h)),mG⟩
end Go.Proofs.YtdlbaonelfcahaaGreatDoor
namespace Go.Proofs.YtdlbaonelfcahaaGreatDoor
open Go.AM
variable {Γ:bG}
theorem B6{i:Nat}(hi:i<cG):Vl i=true:=List.all_eq_true.1 DX i (List.mem_range.2 hi)
theorem PW{i:Nat}(hi:i<cG){H:AH}{v:AV}{fp:List Nat}(a:Cg H v (eA i) fp):
    T Tryz.prog Γ Fn.Lb [v,.str (tb (cS i))] H fun r H'=>∃v',r=.tup [v',.bool true]∧qc H fp H' v' (eA (i+1)):=by
  have ok:=B6 hi
  rw[tT hi]
  unfold Vl at ok
  unfold yW
  simp only[Bool.and_eq_true,decide_eq_true_eq]at ok
  obtain⟨h1,h2,h3⟩:=ok
  by_cases c1:(cS i).take 7=bu
  · rw[if_pos c1]at h3 ⊢
    exact TQ (by omega) (by simpa using h3) c1 a
  rw[if_neg c1]at h3 ⊢
  simp only[Bool.and_eq_true,decide_eq_true_eq]at h3
  obtain⟨h4,h5,h6⟩:=h3
  have eS:eC (eA i)=(eA i)[(eA i).length-1]'(by omega):=by
    unfold eC;rw[List.getD_eq_getElem?_getD,List.getElem?_eq_getElem (by omega)];rfl
  by_cases c2:(cS i).take 7=bz
  · rw[if_pos c2]at h6 ⊢
    rw[eS]at h5 ⊢
    exact Pq (n:=(eA i).length-1) (by omega) (by omega) (by simpa using h6) c2 (by omega) a
  rw[if_neg c2]at h6 ⊢
  simp only[Bool.and_eq_true,decide_eq_true_eq]at h6
  obtain⟨h7,h8,h9⟩:=h6
  have eM:(eC (eA i)).methods[(eC (eA i)).methods.length-1]'(by omega)=pQ (eC (eA i)):=by
    unfold pQ;rw[List.getD_eq_getElem?_getD,List.getElem?_eq_getElem (by omega)];rfl
  exact RG (n:=(eA i).length-1) (by omega) (by omega) h7 eS.symm (k:=(eC (eA i)).methods.length-1) (by omega) (by omega) eM (by omega) a
theorem oD{s:bj}(hs:s∈gO){m:cD}(hm:m∈s.methods){x:bJ}(hx:x∈m.code):∃c∈bZ,x=bM c:=by
  have:=List.all_eq_true.1 gV s hs
  simp only[Bool.and_eq_true,List.all_eq_true]at this
  have:=(this.2.2 m hm).2.2 x hx
  simpa using this
theorem BQ{x:bJ}(h:∃c∈bZ,x=bM c):BJ x.D∧ig x.D=tb (jq x):=by
  obtain⟨c,hc,rfl⟩:=h
  have hf:=xe hc
  obtain⟨k1,k2,k3,k4,k5,k6,k7,k8,k9,k10,k11,k12⟩:=iz hc
  have d64:∀n:Int,(n = -1∨jQ n=true)→i64 n:=fun n h=>by
    rcases h with rfl|h
    · exact⟨by omega,by omega⟩
    · simp only[jQ,Bool.and_eq_true,decide_eq_true_eq]at h;exact⟨by omega,by omega⟩
  refine⟨⟨?_,d64 _ (.inr k5),d64 _ (.inr k6),d64 _ k7,d64 _ k8⟩,by rw[hf,k4]⟩
  rw[show(bM c).D.name=tb (bM c).name from rfl,dV];omega
theorem Kr{s:bj}(hs:s∈gO){m:cD}(hm:m∈s.methods):tH m.D:=by
  have:=List.all_eq_true.1 gV s hs
  simp only[Bool.and_eq_true,List.all_eq_true,decide_eq_true_eq]at this
  have t:=this.2.2 m hm
  refine⟨?_,?_,fun x hx=>?_⟩
  · rw[show m.D.name=tb m.name from rfl,dV];omega
  · rw[show m.D.code=m.code.map bJ.D from rfl,List.length_map];omega
  · obtain⟨y,hy,rfl⟩:=List.mem_map.1 hx
    exact(BQ (oD hs hm hy)).1
theorem Kl{s:bj}(hs:s∈gO):lJ s.D:=by
  have:=List.all_eq_true.1 gV s hs
  simp only[Bool.and_eq_true,List.all_eq_true,decide_eq_true_eq]at this
  refine⟨?_,?_,fun x hx=>?_⟩
  · rw[show s.D.name=tb s.name from rfl,dV];omega
  · rw[show s.D.methods=s.methods.map cD.D from rfl,List.length_map];omega
  · obtain⟨y,hy,rfl⟩:=List.mem_map.1 hx
    exact Kr hs hy
theorem oO:∀s∈dP,lJ s:=fun s hs=>by
  obtain⟨y,hy,rfl⟩:=List.mem_map.1 hs
  exact Kl hy
theorem xN:lu=tb [10]:=rfl
theorem BE{c:List bJ}(h:∀x∈c,ig x.D=tb (jq x)):∀o:Tx,hD (c.map bJ.D) (tb o)=tb (o++(c.map fun x=>jq x++[10]).flatten):=by
  induction c with
  | nil=>intro o;simp[hD]
  | cons x c ih=>
    intro o
    have e:=ih (fun y hy=>h y (by simp[hy])) (o++jq x++[10])
    show hD (c.map bJ.D) (tb o++ig x.D++lu)=_
    rw[h x (by simp),xN,db,db,e]
    congr 1;simp
theorem B4{m:cD}(h:∀x∈m.code,ig x.D=tb (jq x))(o:Tx):ie (tb o) m.D=tb (o++(bz++m.name++[10]++(m.code.map fun x=>jq x++[10]).flatten)):=by
  unfold ie
  rw[show m.D.name=tb m.name from rfl,xN,db,db,db,show m.D.code=m.code.map bJ.D from rfl,BE h]
  congr 1;simp
theorem Bv{l:List cD}(h:∀m∈l,∀x∈m.code,ig x.D=tb (jq x)):∀o:Tx,(l.map cD.D).foldl ie (tb o)=tb (o++(l.map fun m=>bz++m.name++[10]++(m.code.map fun x=>jq x++[10]).flatten).flatten):=by
  induction l with
  | nil=>intro o;simp
  | cons m l ih=>
    intro o
    rw[List.map_cons,List.foldl_cons,B4 (h m (by simp)),ih (fun y hy=>h y (by simp[hy]))]
    congr 1;simp
theorem Eg{s:bj}(hs:s∈gO):nY s.D=tb (fmtS s):=by
  unfold nY
  rw[show s.D.name=tb s.name from rfl,xN,db,db,show s.D.methods=s.methods.map cD.D from rfl,Bv (fun m hm x hx=>(BQ (oD hs hm hx)).2)]
  rfl
theorem Du{l:List bj}(h:∀s∈l,s∈gO):∀o:Tx,(l.map bj.D).foldl (fun o s=>o++nY s) (tb o)=tb (o++(l.map fmtS).flatten):=by
  induction l with
  | nil=>intro o;simp
  | cons m l ih=>
    intro o
    rw[List.map_cons,List.foldl_cons,Eg (h m (by simp)),db,ih (fun y hy=>h y (by simp[hy]))]
    congr 1;simp
theorem Dx:gE dP=tb dH:=by
  unfold gE dP
  rw[Du (fun s h=>h),xp]
  rfl
theorem Sf(h:AH):T Tryz.prog Γ Fn.WQ [.str (tb dH)] h (bc h [.c (.sl 2 (dP.map aB.cd)),.c (.b true)]):=by
  have LT:=qA dH
  have ht:=yP
  have nt:¬((dH.length:Nat):Int)>4000:=by omega
  have hsp:=fun h=>T.J4 (Gc (Γ:=Γ) dH ht 10 h)
  simp only[iw,uE]at hsp
  have L0:=bH false 1 false (aU 10 dH) fun w=>[AV.str (tb w)]
  rw[iV]at L0
  have i0:∀k,k<cG→cm 1 (.vs false 1 false ((aU 10 dH).map fun w=>[AV.str (tb w)])) (k:Int)=some (.ip false [.str (tb (cS k))]):=fun k hk=>by
    have hl:k<(aU 10 dH).length:=by rw[iV];omega
    have e:=bW (β:=false) (sz:=1) (ex:=false) (l:=aU 10 dH) (ce:=fun w=>[AV.str (tb w)]) (k:=k) hl
    have e2:=xk k hk
    rw[List.getElem?_eq_getElem hl,Option.some.injEq]at e2
    rw[e,e2]
  generalize e0:AV.vs false 1 false ((aU 10 dH).map fun w=>[AV.str (tb w)])=a0 at *
  have hn:=rz
  have wl:IntKind.i64.wrap (((cG+1:Nat):Int)-1)=(cG:Int):=Xj (by omega)
  generalize hN:cG=N at *
  refine T.yu rfl ?_
  refine Q1 (au aF mixed [] _ _ _ ?_)
  unfold Jf
  simp only[EZ,ah,Nat.reduceAdd,Nat.reduceBEq,lB,EB,ER,LT,decide_eq_false nt]
  refine aq.val (by simp only[EO]) (hsp _) ?_
  simp only[EZ,ah,Nat.reduceAdd,Nat.reduceBEq,lB,EB,ER,EA]
  refine bD aF mixed [] (fun x:Nat×AV×AH×List Nat=>x.1≤N∧Cg x.2.2.1 x.2.1 (eA x.1) x.2.2.2∧(∀c∈x.2.2.2,h.length≤c)∧∃N,x.2.2.1=h++N) (fun x=>N-x.1)
    (fun x=>vj (.str (tb dH)) a0 x.2.1 (.int .i64 x.1) ([]:List (List AV)) x.2.2.1) (0,.gs h.length 0 0 0 0 2 true,h++[some (0,[])],[h.length]) ⟨by omega,⟨dQ h 2,by simp⟩,by simp,_,rfl⟩ ⟨by simp[vj,cj,ck],rfl,rfl⟩ ?_
  rintro⟨k,v,H,fp⟩ ⟨hk,la,hfp,M,hM⟩
  simp only at hk la hfp hM
  subst hM
  simp only[EZ,ah,Nat.reduceAdd,Nat.reduceBEq,lB,vj,L0,wl]
  refine ba (fun hlt=>?_) (fun hge=>?_)
  rotate_left
  · have hk:k=N:=by simp at hge;omega
    subst hk
    subst hN
    rw[vV]at la
    obtain⟨o,nd⟩:=la
    obtain⟨a1,a2,a3,a4⟩:=o.cell
    rw[Dg]at o
    simp only[EZ,ah,Nat.reduceAdd,Nat.reduceBEq,lB,EB,ER]
    refine aq.jE (by simp only[EO,a4]) (bY (bO.jE (aB.cr true) o) dR) (fun h=>JU true dP ou (fun s hs=>(oO s hs).ok) h) (.bool _) ?_
    simp only[EZ,ah,Nat.reduceAdd,Nat.reduceBEq,lB,EB,ER]
    refine aq.jE (by simp only[EO,a4]) (bY (bO.jE (aB.cr true) o) dR) (fun h=>Qp true dP ou oO h) (.str _) ?_
    rw[Dx]
    simp only[EZ,ah,Nat.reduceAdd,Nat.reduceBEq,lB,EB,bo,ER,bB,decide_true]
    exact⟨by simp only[List.all_cons,List.all_nil,EO,a4,Bool.and_self],v,M,fp,rfl,rfl,o,nd,hfp⟩
  have hlt:k<N:=by simpa using hlt
  have i1:=i0 k hlt
  obtain⟨a1,a2,a3,a4⟩:=la.1.cell
  simp only[EZ,ah,Nat.reduceAdd,Nat.reduceBEq,lB,EB,i1]
  refine aq.ref (by simp only[EO,a4]) (PW (by omega) la) ?_
  rintro r H' ⟨v',rfl,fp',la',hl',hf',hm'⟩
  obtain⟨M',rfl⟩:=vb hl' (fun c h1 h2=>hf' c h2 h1) hfp
  simp only[EZ,ah,Nat.reduceAdd,Nat.reduceBEq,lB,EB,ER]
  exact⟨(k+1,v',h++M',fp'),⟨hlt,la',fun c hc=>by
    rcases hm' c hc with q|q
    · exact hfp c q
    · simp at q;omega,M',rfl⟩,by simp only;omega,⟨by rw[wN (by omega)];simp[vj,cj,ck],rfl,rfl⟩⟩
end Go.Proofs.YtdlbaonelfcahaaGreatDoor
namespace Go.Proofs.YtdlbaonelfcahaaGreatDoor
open Go.AM
variable {Γ:bG}
theorem p7(n lo hi:Int)(h:AH):T Tryz.prog Γ Fn.zt [.int .i64 n,.int .i64 lo,.int .i64 hi] h fun v h'=>v=.bool (ku n lo hi)∧h'=h:=by
  refine Mi (au aF mixed [] _ _ _ ?_)
  unfold JP
  simp only[EZ,ah,Nat.reduceAdd,Nat.reduceBEq,Db]
  refine js (fun h1=>?_) (fun h1=>?_)<;>simp only[EZ,ah,Nat.reduceAdd,Nat.reduceBEq,Db,h1]
  · exact⟨rfl,by simp only[ku,h1,Bool.true_and]⟩
  · exact⟨rfl,by simp only[ku,h1,Bool.false_and]⟩
theorem zf(n:Int)(h:AH):T Tryz.prog Γ Fn.xg [.int .i64 n] h fun v h'=>v=.bool (iH n)∧h'=h:=by
  refine MJ (au aF mixed [] _ _ _ ?_)
  unfold Hv
  simp only[EZ,ah,Nat.reduceAdd,Nat.reduceBEq,C0]
  refine aq.val (by simp only[EO]) (p7 n 0 7 h) ?_
  simp only[EZ,ah,Nat.reduceAdd,Nat.reduceBEq,C0]
  first|exact⟨rfl,rfl⟩|exact rfl|trivial
theorem CP(v:ByteArray)(hv:v.size≤1048576)(hn:Ky v=true)(h:AH):T Tryz.prog Γ Fn.Lc [.str v] h fun r h'=>r=.bool true∧h'=h:=by
  have hn':=hn
  simp only[Ky,Bool.and_eq_true,decide_eq_true_eq,List.all_eq_true,List.mem_range]at hn'
  obtain⟨⟨n1,n2⟩,n3⟩:=hn'
  have hr:ku (v.size:Int) 1 6=true:=by simp only[ku,Bool.and_eq_true,decide_eq_true_eq];exact⟨n1,n2⟩
  have hin:=fun h=>p7 (Γ:=Γ) (v.size:Int) 1 6 h
  rw[hr]at hin
  refine Mu (au aF mixed [] _ _ _ ?_)
  unfold I3
  simp only[EZ,ah,Nat.reduceAdd,Nat.reduceBEq,tq,fT]
  refine aq.val (by simp only[EO]) (hin _) ?_
  simp only[EZ,ah,Nat.reduceAdd,Nat.reduceBEq,tq,fT]
  refine bD aF mixed [] (fun k:Nat=>k≤v.size) (fun k=>v.size-k)
    (fun k=>uO (.str v) (.int .i64 v.size) (.int .i64 k) ([]:List (List AV)) h) 0 (by omega) ⟨by simp[uO,cj,ck],rfl,rfl⟩ ?_
  rintro k hk
  simp only[EZ,ah,Nat.reduceAdd,Nat.reduceBEq,tq,uO,fT]
  refine ba (fun hlt=>?_) (fun hge=>?_)
  rotate_left
  · simp only[EZ,ah,Nat.reduceAdd,Nat.reduceBEq,tq,fT]
    first|exact⟨rfl,rfl⟩|exact rfl|trivial
  have hlt:k<v.size:=by simpa using hlt
  have ix:=fun s:St=>ko s hlt
  obtain⟨b1,b2⟩:=n3 k hlt
  simp only[EZ,ah,Nat.reduceAdd,Nat.reduceBEq,tq,fN,ix,decide_eq_false (show ¬(cQ v k:Int)<97 by omega),decide_eq_false (show ¬(cQ v k:Int)>122 by omega)]
  exact⟨k+1,hlt,by omega,⟨by rw[wN (by omega)];simp[uO,cj,ck],rfl,rfl⟩⟩
theorem L7(x:aN)(hx:vo x=true)(h:AH):T Tryz.prog Γ Fn.UN [.int .i64 x.c_,.int .i64 x.d] h fun v h'=>v=.bool true∧h'=h:=by
  refine Sk (au aF mixed [] _ _ _ ?_)
  unfold Ig
  simp only[EZ,ah,Nat.reduceAdd,Nat.reduceBEq,s0,bo,aE,ay]
  repeat' (first
    | (guard_target =~ aq _ _ Fn.xg _ _ _;refine aq.val (by simp only[EO]) (zf _ _) ?_;simp only[EZ,ah,Nat.reduceAdd,Nat.reduceBEq,s0,bo,aE,ay])
    | (refine jU (fun hh=>?_) (fun hh=>?_)<;>simp only[EZ,ah,Nat.reduceAdd,Nat.reduceBEq,s0,hh,bo,aE,ay])
    | (refine js (fun hh=>?_) (fun hh=>?_)<;>simp only[EZ,ah,Nat.reduceAdd,Nat.reduceBEq,s0,hh,bo,aE,ay])
    | (refine ba (fun hh=>?_) (fun hh=>?_)<;>simp only[EZ,ah,Nat.reduceAdd,Nat.reduceBEq,s0,hh,bo,aE,ay])
    | (first|(simp_all [vo,AI];done)|(simp_all [vo,AI,iH];done)|(simp_all [vo,AI,iH];omega)))
theorem X9(a b c d e:Int)(n:ByteArray)(a' b' c' d' e':Int)(n':ByteArray):bU .eql (.agg [.int .i64,.int .i64,.int .i64,.int .i64,.int .i64,.str]) (.agg [.int .i64 a,.int .i64 b,.int .i64 c,.int .i64 d,.int .i64 e,.str n]) (.agg [.int .i64 a',.int .i64 b',.int .i64 c',.int .i64 d',.int .i64 e',.str n'])=some (.bool (decide (a=a'∧b=b'∧c=c'∧d=d'∧e=e'∧n=n'))):=by
  simp[bU,jW,pq,yd,Bool.decide_and,aE,bB]
set_option maxHeartbeats 16000000 in
set_option maxRecDepth 100000 in
theorem E4(x:aN)(hx:fM x=true)(sz:x.name.size≤1000000)(h:AH):T Tryz.prog Γ Fn.US [.agg (x.c false)] h fun v h'=>v=.bool true∧h'=h:=by
  have tn:(⟨#[]⟩:ByteArray)=tb []:=rfl
  have rA:=fun h=>zf (Γ:=Γ) x.a h
  have rB:=fun h=>zf (Γ:=Γ) x.b h
  have rC:=fun h=>zf (Γ:=Γ) x.c_ h
  have nA:=fun lo hi h=>p7 (Γ:=Γ) x.a lo hi h
  have nB:=fun lo hi h=>p7 (Γ:=Γ) x.b lo hi h
  have hN:=fun hn h=>CP (Γ:=Γ) x.name (by omega) hn h
  have hP:=fun ht h=>L7 (Γ:=Γ) x ht h
  have eP:hZ x=true→bU .eql (.agg [.int .i64,.int .i64,.int .i64,.int .i64,.int .i64,.str]) (.agg [.int .i64 x.op,.int .i64 x.a,.int .i64 x.b,.int .i64 x.c_,.int .i64 x.d,.str x.name]) (.agg [.int .i64 x.op,.int .i64 x.a,.int .i64 x.b,.int .i64 0,.int .i64 0,.str (tb [])])=some (.bool true):=fun hp=>by
    simp only[hZ,Bool.and_eq_true,decide_eq_true_eq]at hp
    obtain⟨p1,p2,p3⟩:=hp
    rw[X9,decide_eq_true ⟨rfl,rfl,rfl,p1,p2,p3⟩]
  refine Ra (au aF mixed [] _ _ _ ?_)
  unfold FE
  simp only[EZ,ah,Nat.reduceAdd,Nat.reduceBEq,cZ,aN.c]
  unfold fM at hx
  by_cases e1:x.op=1
  · rw[if_pos e1]at hx
    simp only[Bool.and_eq_true]at hx
    obtain⟨h1,h2,h3⟩:=hx
    have nB':=nB 0 999999
    rw[h2]at rA;rw[show ku x.b 0 999999=true from h3]at nB'
    have e:=eP h1
    simp only[EZ,ah,Nat.reduceAdd,Nat.reduceBEq,cZ,EB,bo,aE,ay,decide_eq_true e1,dc,ji,jg,jn,tn,e]
    refine aq.val (by simp only[EO]) (rA _) ?_
    simp only[EZ,ah,Nat.reduceAdd,Nat.reduceBEq,cZ,EB,bo]
    refine aq.val (by simp only[EO]) (nB' _) ?_
    simp only[EZ,ah,Nat.reduceAdd,Nat.reduceBEq,cZ,EB,bo]
    first|exact⟨rfl,rfl⟩|exact rfl|trivial
  rw[if_neg e1]at hx
  by_cases e2:x.op=2
  · rw[if_pos e2]at hx
    simp only[Bool.and_eq_true]at hx
    obtain⟨h1,h2,h3⟩:=hx
    have nB':=nB 0 1
    rw[h2]at rA;rw[show ku x.b 0 1=true from h3]at nB'
    have e:=eP h1
    simp only[EZ,ah,Nat.reduceAdd,Nat.reduceBEq,cZ,EB,bo,aE,ay,decide_eq_false e1,decide_eq_true e2,dc,ji,jg,jn,tn,e]
    refine aq.val (by simp only[EO]) (rA _) ?_
    simp only[EZ,ah,Nat.reduceAdd,Nat.reduceBEq,cZ,EB,bo]
    refine aq.val (by simp only[EO]) (nB' _) ?_
    simp only[EZ,ah,Nat.reduceAdd,Nat.reduceBEq,cZ,EB,bo]
    first|exact⟨rfl,rfl⟩|exact rfl|trivial
  rw[if_neg e2]at hx
  by_cases e3:x.op=3
  · rw[if_pos e3]at hx
    simp only[Bool.and_eq_true]at hx
    obtain⟨h1,h2,h3⟩:=hx
    have nB':=nB 0 2
    rw[h2]at rA;rw[show ku x.b 0 2=true from h3]at nB'
    have e:=eP h1
    simp only[EZ,ah,Nat.reduceAdd,Nat.reduceBEq,cZ,EB,bo,aE,ay,decide_eq_false e1,decide_eq_false e2,decide_eq_true e3,dc,ji,jg,jn,tn,e]
    refine aq.val (by simp only[EO]) (rA _) ?_
    simp only[EZ,ah,Nat.reduceAdd,Nat.reduceBEq,cZ,EB,bo]
    refine aq.val (by simp only[EO]) (nB' _) ?_
    simp only[EZ,ah,Nat.reduceAdd,Nat.reduceBEq,cZ,EB,bo]
    first|exact⟨rfl,rfl⟩|exact rfl|trivial
  rw[if_neg e3]at hx
  by_cases e4:x.op=4∨x.op=10
  · rw[if_pos e4]at hx
    simp only[Bool.and_eq_true,decide_eq_true_eq]at hx
    obtain⟨h1,h2,h3⟩:=hx
    rw[h2]at rA
    have e:=eP h1
    rw[h3]at e
    by_cases e5:x.op=4
    · simp only[EZ,ah,Nat.reduceAdd,Nat.reduceBEq,cZ,EB,bo,aE,ay,decide_eq_false e1,decide_eq_false e2,decide_eq_false e3,decide_eq_true e5,dc,ji,jg,jn,tn,h3,e]
      refine aq.val (by simp only[EO]) (rA _) ?_
      simp only[EZ,ah,Nat.reduceAdd,Nat.reduceBEq,cZ,EB,bo]
      first|exact⟨rfl,rfl⟩|exact rfl|trivial
    · have e6:=e4.resolve_left e5
      simp only[EZ,ah,Nat.reduceAdd,Nat.reduceBEq,cZ,EB,bo,aE,ay,decide_eq_false e1,decide_eq_false e2,decide_eq_false e3,decide_eq_false e5,decide_eq_true e6,dc,ji,jg,jn,tn,h3,e]
      refine aq.val (by simp only[EO]) (rA _) ?_
      simp only[EZ,ah,Nat.reduceAdd,Nat.reduceBEq,cZ,EB,bo]
      first|exact⟨rfl,rfl⟩|exact rfl|trivial
  rw[if_neg e4]at hx
  have e41:¬x.op=4:=fun e=>e4 (.inl e)
  have e42:¬x.op=10:=fun e=>e4 (.inr e)
  by_cases e5:x.op=5
  · rw[if_pos e5]at hx
    simp only[Bool.and_eq_true,decide_eq_true_eq]at hx
    obtain⟨h1,h2,h3,h4,h5⟩:=hx
    rw[h1]at rA;rw[h2]at rB;rw[h3]at rC
    have e:bU .eql (.agg [.int .i64,.int .i64,.int .i64,.int .i64,.int .i64,.str]) (.agg [.int .i64 x.op,.int .i64 x.a,.int .i64 x.b,.int .i64 x.c_,.int .i64 x.d,.str x.name]) (.agg [.int .i64 x.op,.int .i64 x.a,.int .i64 x.b,.int .i64 x.c_,.int .i64 0,.str (tb [])])=some (.bool true):=by
      rw[X9,decide_eq_true ⟨rfl,rfl,rfl,rfl,h4,h5⟩]
    simp only[EZ,ah,Nat.reduceAdd,Nat.reduceBEq,cZ,EB,bo,aE,ay,decide_eq_false e1,decide_eq_false e2,decide_eq_false e3,decide_eq_false e41,decide_eq_false e42,decide_eq_true e5,dc,ji,jg,jn,tn,e]
    refine aq.val (by simp only[EO]) (rA _) ?_
    simp only[EZ,ah,Nat.reduceAdd,Nat.reduceBEq,cZ,EB,bo]
    refine aq.val (by simp only[EO]) (rB _) ?_
    simp only[EZ,ah,Nat.reduceAdd,Nat.reduceBEq,cZ,EB,bo]
    refine aq.val (by simp only[EO]) (rC _) ?_
    simp only[EZ,ah,Nat.reduceAdd,Nat.reduceBEq,cZ,EB,bo]
    first|exact⟨rfl,rfl⟩|exact rfl|trivial
  rw[if_neg e5]at hx
  by_cases e6:x.op=6
  · rw[if_pos e6]at hx
    simp only[Bool.and_eq_true,decide_eq_true_eq]at hx
    obtain⟨h1,h2,h3,h4⟩:=hx
    rw[h1]at rA;rw[h2]at rB
    have hN':=hN h4
    have hP':=hP h3
    simp only[EZ,ah,Nat.reduceAdd,Nat.reduceBEq,cZ,EB,bo,aE,ay,decide_eq_false e1,decide_eq_false e2,decide_eq_false e3,decide_eq_false e41,decide_eq_false e42,decide_eq_false e5,decide_eq_true e6]
    refine aq.val (by simp only[EO]) (rA _) ?_
    simp only[EZ,ah,Nat.reduceAdd,Nat.reduceBEq,cZ,EB,bo]
    refine aq.val (by simp only[EO]) (rB _) ?_
    simp only[EZ,ah,Nat.reduceAdd,Nat.reduceBEq,cZ,EB,bo]
    refine aq.val (by simp only[EO]) (hP' _) ?_
    simp only[EZ,ah,Nat.reduceAdd,Nat.reduceBEq,cZ,EB,bo]
    refine aq.val (by simp only[EO]) (hN' _) ?_
    simp only[EZ,ah,Nat.reduceAdd,Nat.reduceBEq,cZ,EB,bo]
    first|exact⟨rfl,rfl⟩|exact rfl|trivial
  rw[if_neg e6]at hx
  by_cases e7:x.op=7
  · rw[if_pos e7]at hx
    simp only[Bool.and_eq_true,decide_eq_true_eq]at hx
    obtain⟨h1,h2,h3,h4⟩:=hx
    rw[h1]at rA
    have hN':=hN h4
    have hP':=hP h3
    simp only[EZ,ah,Nat.reduceAdd,Nat.reduceBEq,cZ,EB,bo,aE,ay,decide_eq_false e1,decide_eq_false e2,decide_eq_false e3,decide_eq_false e41,decide_eq_false e42,decide_eq_false e5,decide_eq_false e6,decide_eq_true e7]
    refine aq.val (by simp only[EO]) (rA _) ?_
    simp only[EZ,ah,Nat.reduceAdd,Nat.reduceBEq,cZ,EB,bo,aE,decide_eq_true h2]
    refine aq.val (by simp only[EO]) (hP' _) ?_
    simp only[EZ,ah,Nat.reduceAdd,Nat.reduceBEq,cZ,EB,bo]
    refine aq.val (by simp only[EO]) (hN' _) ?_
    simp only[EZ,ah,Nat.reduceAdd,Nat.reduceBEq,cZ,EB,bo]
    first|exact⟨rfl,rfl⟩|exact rfl|trivial
  rw[if_neg e7]at hx
  by_cases e8:x.op=8
  · rw[if_pos e8]at hx
    simp only[Bool.and_eq_true]at hx
    obtain⟨h1,h2,h3⟩:=hx
    have nA':=nA 0 2
    rw[h3]at rB;rw[show ku x.a 0 2=true from h2]at nA'
    have e:=eP h1
    simp only[EZ,ah,Nat.reduceAdd,Nat.reduceBEq,cZ,EB,bo,aE,ay,decide_eq_false e1,decide_eq_false e2,decide_eq_false e3,decide_eq_false e41,decide_eq_false e42,decide_eq_false e5,decide_eq_false e6,decide_eq_false e7,decide_eq_true e8,dc,ji,jg,jn,tn,e]
    refine aq.val (by simp only[EO]) (nA' _) ?_
    simp only[EZ,ah,Nat.reduceAdd,Nat.reduceBEq,cZ,EB,bo]
    refine aq.val (by simp only[EO]) (rB _) ?_
    simp only[EZ,ah,Nat.reduceAdd,Nat.reduceBEq,cZ,EB,bo]
    first|exact⟨rfl,rfl⟩|exact rfl|trivial
  rw[if_neg e8]at hx
  by_cases e9:x.op=9
  · rw[if_pos e9]at hx
    simp only[Bool.and_eq_true]at hx
    obtain⟨h1,h2,h3⟩:=hx
    have nB':=nB 1 12
    rw[h2]at rA;rw[show ku x.b 1 12=true from h3]at nB'
    have e:=eP h1
    simp only[EZ,ah,Nat.reduceAdd,Nat.reduceBEq,cZ,EB,bo,aE,ay,decide_eq_false e1,decide_eq_false e2,decide_eq_false e3,decide_eq_false e41,decide_eq_false e42,decide_eq_false e5,decide_eq_false e6,decide_eq_false e7,decide_eq_false e8,decide_eq_true e9,dc,ji,jg,jn,tn,e]
    refine aq.val (by simp only[EO]) (rA _) ?_
    simp only[EZ,ah,Nat.reduceAdd,Nat.reduceBEq,cZ,EB,bo]
    refine aq.val (by simp only[EO]) (nB' _) ?_
    simp only[EZ,ah,Nat.reduceAdd,Nat.reduceBEq,cZ,EB,bo]
    first|exact⟨rfl,rfl⟩|exact rfl|trivial
  rw[if_neg e9]at hx
  cases hx
theorem N7(x:aN)(hx:fM x=true)(sz:x.name.size≤1000000)(h:AH):T Tryz.prog Γ Fn.La [.agg (x.c false)] h fun v h'=>v=.bool false∧h'=h:=by
  have hi:=fun h=>E4 (Γ:=Γ) x hx sz h
  simp only[aN.c]at hi
  refine L6 (au aF mixed [] _ _ _ ?_)
  unfold Jg
  simp only[EZ,ah,Nat.reduceAdd,Nat.reduceBEq,AY,EB,aN.c]
  refine aq.val (by simp only[EO]) (hi _) ?_
  simp only[EZ,ah,Nat.reduceAdd,Nat.reduceBEq,AY,EB,bo]
  first|exact⟨rfl,rfl⟩|exact rfl|trivial
theorem xB{α:Type}(l:List α):jx (fun _=>false) l = -1:=by
  rcases qF (fun _=>false) l with⟨k,hk,e1,e2,e3⟩|⟨e1,_,_⟩
  · cases e2
  · exact e1
theorem vS(β:Bool)(m:aJ)(hm:pN m=true)(ok:m.ok 1000000)(h:AH):T Tryz.prog Γ Fn.Xt [.vs β 6 false (m.code.map (aN.c β)),.fn Fn.La [] []] h fun v h'=>v=.bool false∧h'=h:=by
  simp only[pN,Bool.and_eq_true,List.all_eq_true,decide_eq_true_eq]at hm
  obtain⟨m1,m2,m3⟩:=hm
  have hidx:∀h,T Tryz.prog Γ Fn.Wn [.vs β 6 false (m.code.map (aN.c β)),.fn Fn.La [] []] h fun v h'=>v=.int .i64 (-1)∧h'=h:=fun h=>by
    rw[←xB m.code]
    exact fG (P:=Tryz.prog) (Γ:=Γ) aF mixed (sz:=6) (agg:=true) (fun hw=>R8 hw) (β:=β) (l:=m.code) (c:=aN.c β) (by omega) (fun x=>⟨⟨rfl,.inl rfl⟩,rfl⟩) (g:=Fn.La) (first:=[]) (caps:=[]) rfl (fun _=>false) (h:=h) (fun x hx=>N7 x (m1 x hx) (by have:=ok.2.2 x hx;unfold aN.ok at this;omega) _)
  have ot:bX (AV.vs β 6 false (m.code.map (aN.c β)))=true:=rfl
  refine SQ (au aF mixed [] _ _ _ ?_)
  unfold E8
  simp only[EZ,ah,Nat.reduceAdd,Nat.reduceBEq,Cp]
  refine aq.val (by simp only[EO,ot]) (hidx _) ?_
  simp only[EZ,ah,Nat.reduceAdd,Nat.reduceBEq,Cp]
  first|exact⟨rfl,rfl⟩|exact rfl|trivial
theorem Tu(β:Bool)(m:aJ)(hm:pN m=true)(ok:m.ok 1000000)(h:AH):T Tryz.prog Γ Fn.VU [.agg (m.c β)] h fun v h'=>v=.bool true∧h'=h:=by
  have hc:=fun h=>vS (Γ:=Γ) β m hm ok h
  simp only[pN,Bool.and_eq_true,List.all_eq_true,decide_eq_true_eq]at hm
  obtain⟨m1,m2,m3⟩:=hm
  have L0:=bH β 6 false m.code (aN.c β)
  have hn:=fun h=>CP (Γ:=Γ) m.name (by have:=ok.1;omega) m2 h
  have ot:bX (AV.vs β 6 false (m.code.map (aN.c β)))=true:=rfl
  have e:((m.code.length:Nat):Int)≤12:=by omega
  refine Tg (au aF mixed [] _ _ _ ?_)
  unfold GJ
  simp only[EZ,ah,Nat.reduceAdd,Nat.reduceBEq,yZ,EB,aJ.c]
  refine aq.val (by simp only[EO]) (hn _) ?_
  simp only[EZ,ah,Nat.reduceAdd,Nat.reduceBEq,yZ,EB,L0,decide_eq_true e]
  refine aq.val (by simp only[EO,ot]) (hc _) ?_
  simp only[EZ,ah,Nat.reduceAdd,Nat.reduceBEq,yZ,EB]
  first|exact⟨rfl,rfl⟩|exact rfl|trivial
end Go.Proofs.YtdlbaonelfcahaaGreatDoor
