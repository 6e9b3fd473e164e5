import Derived.Test.YtccjhmhkfnnmaaaGreatR6G22
import Derived.Test.YtccjhmhkfnnmaaaGreatAmG9
set_option linter.unusedVariables false
set_option linter.unusedSimpArgs false
namespace Go.Proofs.YtccjhmhkfnnmaaaGreat
open Go.AM
variable {Γ:bY}
theorem ae.ne(x y:ae):cV .neq (.agg [.int .i64,.int .i64]) (.agg [.int .i64 x.kind,.int .i64 x.n]) (.agg [.int .i64 y.kind,.int .i64 y.n])=some (.bool !decide (x=y)):=by rw[sw];simp only[ae.dec]
theorem cf.ne(x y:cf):cV .neq (.agg [.int .i64,.int .i64]) (.agg [.int .i64 x.peer,.int .i64 x.question]) (.agg [.int .i64 y.peer,.int .i64 y.question])=some (.bool !decide (x=y)):=by rw[sw];simp only[cf.dec]
theorem aP.ne(x y:aP):cV .neq (.agg [.int .i64,.int .i64]) (.agg [.int .i64 x.id,.int .i64 x.promise]) (.agg [.int .i64 y.id,.int .i64 y.promise])=some (.bool !decide (x=y)):=by rw[sw];simp only[aP.dec]
theorem bW.ne(x y:bW):cV .neq (.agg [.int .i64,.int .i64]) (.agg [.int .i64 x.kind,.int .i64 x.n]) (.agg [.int .i64 y.kind,.int .i64 y.n])=some (.bool !decide (x=y)):=by rw[sw];simp only[bW.dec]
theorem js.ne(x y:js):cV .neq (.agg [.int .i64,.int .i64,.int .i64]) (.agg [.int .i64 x.vat,.int .i64 x.entity,.int .i64 x.seq]) (.agg [.int .i64 y.vat,.int .i64 y.entity,.int .i64 y.seq])=some (.bool !decide (x=y)):=by rw[Bu];simp only[js.dec]
theorem aI.ne(x y:aI):cV .neq (.agg [.int .i64,.int .i64,.int .i64]) (.agg [.int .i64 x.pos,.int .i64 x.entity,.int .i64 x.count]) (.agg [.int .i64 y.pos,.int .i64 y.entity,.int .i64 y.count])=some (.bool !decide (x=y)):=by rw[Bu];simp only[aI.dec]
theorem oM(β β':Bool)(l m:List bW)(hl:l.length≤1073741824)(h:AH):T Tryz.prog Γ Fn.SV [.vs β 2 false (l.map (bW.c β)),.vs β' 2 false (m.map (bW.c β'))] h fun v h'=>v=.bool (decide (l=m))∧h'=h:=
  py (sz:=2) (agg:=true) (ek:=.agg [.int .i64,.int .i64]) aC aD (fun hw=>Ro hw) (by omega) (fun x=>⟨rfl,.inl rfl⟩) (fun x=>⟨rfl,.inl rfl⟩) (fun x y=>bW.ne x y)
theorem lK(β β':Bool)(l m:List aI)(hl:l.length≤1073741824)(h:AH):T Tryz.prog Γ Fn.SN [.vs β 3 false (l.map (aI.c β)),.vs β' 3 false (m.map (aI.c β'))] h fun v h'=>v=.bool (decide (l=m))∧h'=h:=
  py (sz:=3) (agg:=true) (ek:=.agg [.int .i64,.int .i64,.int .i64]) aC aD (fun hw=>O5 hw) (by omega) (fun x=>⟨rfl,.inl rfl⟩) (fun x=>⟨rfl,.inl rfl⟩) (fun x y=>aI.ne x y)
theorem iw(β β':Bool)(l m:List aP)(hl:l.length≤1073741824)(h:AH):T Tryz.prog Γ Fn.RJ [.vs β 2 false (l.map (aP.c β)),.vs β' 2 false (m.map (aP.c β'))] h fun v h'=>v=.bool (decide (l=m))∧h'=h:=
  py (sz:=2) (agg:=true) (ek:=.agg [.int .i64,.int .i64]) aC aD (fun hw=>NY hw) (by omega) (fun x=>⟨rfl,.inl rfl⟩) (fun x=>⟨rfl,.inl rfl⟩) (fun x y=>aP.ne x y)
theorem jf(β β':Bool)(l m:List ae)(hl:l.length≤1073741824)(h:AH):T Tryz.prog Γ Fn.R5 [.vs β 2 false (l.map (ae.c β)),.vs β' 2 false (m.map (ae.c β'))] h fun v h'=>v=.bool (decide (l=m))∧h'=h:=
  py (sz:=2) (agg:=true) (ek:=.agg [.int .i64,.int .i64]) aC aD (fun hw=>Qg hw) (by omega) (fun x=>⟨rfl,.inl rfl⟩) (fun x=>⟨rfl,.inl rfl⟩) (fun x y=>ae.ne x y)
theorem lU(β β':Bool)(l m:List cf)(hl:l.length≤1073741824)(h:AH):T Tryz.prog Γ Fn.Sk [.vs β 2 false (l.map (cf.c β)),.vs β' 2 false (m.map (cf.c β'))] h fun v h'=>v=.bool (decide (l=m))∧h'=h:=
  py (sz:=2) (agg:=true) (ek:=.agg [.int .i64,.int .i64]) aC aD (fun hw=>QY hw) (by omega) (fun x=>⟨rfl,.inl rfl⟩) (fun x=>⟨rfl,.inl rfl⟩) (fun x y=>cf.ne x y)
theorem Og(β β':Bool)(a b:bm)(ha:a.ok 1073741824)(h:AH):T Tryz.prog Γ Fn.Td [.agg (a.c β),.agg (b.c β')] h fun v h'=>v=.bool (decide (a=b))∧h'=h:=by
  have hv:∀x y:bW,cV .eql (.agg [.int .i64,.int .i64]) (.agg [.int .i64 x.kind,.int .i64 x.n]) (.agg [.int .i64 y.kind,.int .i64 y.n])=some (.bool (decide (x=y))):=fun x y=>by rw[pK];simp only[bW.dec]
  have ht:∀x y:js,cV .eql (.agg [.int .i64,.int .i64,.int .i64]) (.agg [.int .i64 x.vat,.int .i64 x.entity,.int .i64 x.seq]) (.agg [.int .i64 y.vat,.int .i64 y.entity,.int .i64 y.seq])=some (.bool (decide (x=y))):=fun x y=>by rw[Bs];simp only[js.dec]
  refine OZ (au aC aD [] _ _ _ ?_)
  unfold Hh
  simp only[bm.c]
  by_cases n1:a.kind=b.kind
  rotate_left
  · simp only[EZ,ag,Nat.reduceAdd,Nat.reduceBEq,lI,an,aU,bI,ah,hv,ht,decide_eq_false n1]
    refine⟨rfl,?_⟩;rw[decide_eq_false (fun e=>n1 (by rw[e]))]
  by_cases n2:a.pos=b.pos
  rotate_left
  · simp only[EZ,ag,Nat.reduceAdd,Nat.reduceBEq,lI,an,aU,bI,ah,hv,ht,decide_eq_false n2,decide_eq_true n1]
    refine⟨rfl,?_⟩;rw[decide_eq_false (fun e=>n2 (by rw[e]))]
  by_cases n3:a.answer=b.answer
  rotate_left
  · simp only[EZ,ag,Nat.reduceAdd,Nat.reduceBEq,lI,an,aU,bI,ah,hv,ht,decide_eq_false n3,decide_eq_true n1,decide_eq_true n2]
    refine⟨rfl,?_⟩;rw[decide_eq_false (fun e=>n3 (by rw[e]))]
  by_cases n4:a.question=b.question
  rotate_left
  · simp only[EZ,ag,Nat.reduceAdd,Nat.reduceBEq,lI,an,aU,bI,ah,hv,ht,decide_eq_false n4,decide_eq_true n1,decide_eq_true n2,decide_eq_true n3]
    refine⟨rfl,?_⟩;rw[decide_eq_false (fun e=>n4 (by rw[e]))]
  by_cases n5:a.name=b.name
  rotate_left
  · simp only[EZ,ag,Nat.reduceAdd,Nat.reduceBEq,lI,an,aU,bI,ah,hv,ht,decide_eq_false n5,decide_eq_true n1,decide_eq_true n2,decide_eq_true n3,decide_eq_true n4]
    refine⟨rfl,?_⟩;rw[decide_eq_false (fun e=>n5 (by rw[e]))]
  simp only[EZ,ag,Nat.reduceAdd,Nat.reduceBEq,lI,an,aU,bI,ah,hv,ht,decide_eq_true n1,decide_eq_true n2,decide_eq_true n3,decide_eq_true n4,decide_eq_true n5]
  refine al.val (by simp only[EO]) (oM β β' _ _ ha.2 _) ?_
  by_cases n6:a.args=b.args
  rotate_left
  · simp only[EZ,ag,Nat.reduceAdd,Nat.reduceBEq,lI,an,aU,bI,ah,hv,ht,decide_eq_false n6,decide_eq_true n1,decide_eq_true n2,decide_eq_true n3,decide_eq_true n4,decide_eq_true n5]
    refine⟨rfl,?_⟩;rw[decide_eq_false (fun e=>n6 (by rw[e]))]
  by_cases n7:a.value=b.value
  rotate_left
  · simp only[EZ,ag,Nat.reduceAdd,Nat.reduceBEq,lI,an,aU,bI,ah,hv,ht,decide_eq_false n7,decide_eq_true n1,decide_eq_true n2,decide_eq_true n3,decide_eq_true n4,decide_eq_true n5,decide_eq_true n6]
    refine⟨rfl,?_⟩;rw[decide_eq_false (fun e=>n7 (by rw[e]))]
  by_cases n8:a.count=b.count
  rotate_left
  · simp only[EZ,ag,Nat.reduceAdd,Nat.reduceBEq,lI,an,aU,bI,ah,hv,ht,decide_eq_false n8,decide_eq_true n1,decide_eq_true n2,decide_eq_true n3,decide_eq_true n4,decide_eq_true n5,decide_eq_true n6,decide_eq_true n7]
    refine⟨rfl,?_⟩;rw[decide_eq_false (fun e=>n8 (by rw[e]))]
  by_cases n9:a.tag=b.tag
  rotate_left
  · simp only[EZ,ag,Nat.reduceAdd,Nat.reduceBEq,lI,an,aU,bI,ah,hv,ht,decide_eq_false n9,decide_eq_true n1,decide_eq_true n2,decide_eq_true n3,decide_eq_true n4,decide_eq_true n5,decide_eq_true n6,decide_eq_true n7,decide_eq_true n8]
    refine⟨rfl,?_⟩;rw[decide_eq_false (fun e=>n9 (by rw[e]))]
  simp only[EZ,ag,Nat.reduceAdd,Nat.reduceBEq,lI,an,aU,bI,ah,hv,ht,decide_eq_true n1,decide_eq_true n2,decide_eq_true n3,decide_eq_true n4,decide_eq_true n5,decide_eq_true n6,decide_eq_true n7,decide_eq_true n8,decide_eq_true n9]
  exact⟨rfl,by rw[decide_eq_true (by cases a;cases b;simp only[bm.mk.injEq];exact⟨n1,n2,n3,n4,n5,n6,n7,n8,n9⟩)]⟩
theorem OW(β β':Bool)(a b:aJ)(ha:a.ok 1073741824)(h:AH):T Tryz.prog Γ Fn.NC [.agg (a.c β),.agg (b.c β')] h fun v h'=>v=.bool (decide (a=b))∧h'=h:=by
  refine PR (au aC aD [] _ _ _ ?_)
  unfold HG
  simp only[aJ.c]
  by_cases n1:a.to_=b.to_
  rotate_left
  · simp only[EZ,ag,Nat.reduceAdd,Nat.reduceBEq,zh,an,aU,bI,ah,decide_eq_false n1]
    refine⟨rfl,?_⟩;rw[decide_eq_false (fun e=>n1 (by rw[e]))]
  simp only[EZ,ag,Nat.reduceAdd,Nat.reduceBEq,zh,an,aU,bI,ah,decide_eq_true n1]
  refine al.val (by simp only[EO]) (Og β β' a.message b.message ha _) ?_
  by_cases n2:a.message=b.message
  rotate_left
  · simp only[EZ,ag,Nat.reduceAdd,Nat.reduceBEq,zh,an,aU,bI,ah,decide_eq_false n2,decide_eq_true n1]
    refine⟨rfl,?_⟩;rw[decide_eq_false (fun e=>n2 (by rw[e]))]
  simp only[EZ,ag,Nat.reduceAdd,Nat.reduceBEq,zh,an,aU,bI,ah,decide_eq_true n1,decide_eq_true n2]
  exact⟨rfl,by rw[decide_eq_true (by cases a;cases b;simp only[aJ.mk.injEq];exact⟨n1,n2⟩)]⟩
theorem QM(β β':Bool)(a b:aB)(ha:a.ok 1073741824)(h:AH):T Tryz.prog Γ Fn.Pq [.agg (a.c β),.agg (b.c β')] h fun v h'=>v=.bool (decide (a=b))∧h'=h:=by
  refine Rp (au aC aD [] _ _ _ ?_)
  unfold GX
  simp only[aB.c]
  by_cases n1:a.peer=b.peer
  rotate_left
  · simp only[EZ,ag,Nat.reduceAdd,Nat.reduceBEq,lJ,an,aU,bI,ah,decide_eq_false n1]
    refine⟨rfl,?_⟩;rw[decide_eq_false (fun e=>n1 (by rw[e]))]
  by_cases n2:a.up=b.up
  rotate_left
  · simp only[EZ,ag,Nat.reduceAdd,Nat.reduceBEq,lJ,an,aU,bI,ah,decide_eq_false n2,decide_eq_true n1]
    refine⟨rfl,?_⟩;rw[decide_eq_false (fun e=>n2 (by rw[e]))]
  simp only[EZ,ag,Nat.reduceAdd,Nat.reduceBEq,lJ,an,aU,bI,ah,decide_eq_true n1,decide_eq_true n2]
  refine al.val (by simp only[EO]) (lK β β' _ _ ha.1 _) ?_
  by_cases n3:a.exports=b.exports
  rotate_left
  · simp only[EZ,ag,Nat.reduceAdd,Nat.reduceBEq,lJ,an,aU,bI,ah,decide_eq_false n3,decide_eq_true n1,decide_eq_true n2]
    refine⟨rfl,?_⟩;rw[decide_eq_false (fun e=>n3 (by rw[e]))]
  by_cases n4:a.next=b.next
  rotate_left
  · simp only[EZ,ag,Nat.reduceAdd,Nat.reduceBEq,lJ,an,aU,bI,ah,decide_eq_false n4,decide_eq_true n1,decide_eq_true n2,decide_eq_true n3]
    refine⟨rfl,?_⟩;rw[decide_eq_false (fun e=>n4 (by rw[e]))]
  simp only[EZ,ag,Nat.reduceAdd,Nat.reduceBEq,lJ,an,aU,bI,ah,decide_eq_true n1,decide_eq_true n2,decide_eq_true n3,decide_eq_true n4]
  refine al.val (by simp only[EO]) (iw β β' _ _ ha.2.1 _) ?_
  by_cases n5:a.questions=b.questions
  rotate_left
  · simp only[EZ,ag,Nat.reduceAdd,Nat.reduceBEq,lJ,an,aU,bI,ah,decide_eq_false n5,decide_eq_true n1,decide_eq_true n2,decide_eq_true n3,decide_eq_true n4]
    refine⟨rfl,?_⟩;rw[decide_eq_false (fun e=>n5 (by rw[e]))]
  by_cases n6:a.asked=b.asked
  rotate_left
  · simp only[EZ,ag,Nat.reduceAdd,Nat.reduceBEq,lJ,an,aU,bI,ah,decide_eq_false n6,decide_eq_true n1,decide_eq_true n2,decide_eq_true n3,decide_eq_true n4,decide_eq_true n5]
    refine⟨rfl,?_⟩;rw[decide_eq_false (fun e=>n6 (by rw[e]))]
  simp only[EZ,ag,Nat.reduceAdd,Nat.reduceBEq,lJ,an,aU,bI,ah,decide_eq_true n1,decide_eq_true n2,decide_eq_true n3,decide_eq_true n4,decide_eq_true n5,decide_eq_true n6]
  refine al.val (by simp only[EO]) (iw β β' _ _ ha.2.2 _) ?_
  by_cases n7:a.answers=b.answers
  rotate_left
  · simp only[EZ,ag,Nat.reduceAdd,Nat.reduceBEq,lJ,an,aU,bI,ah,decide_eq_false n7,decide_eq_true n1,decide_eq_true n2,decide_eq_true n3,decide_eq_true n4,decide_eq_true n5,decide_eq_true n6]
    refine⟨rfl,?_⟩;rw[decide_eq_false (fun e=>n7 (by rw[e]))]
  simp only[EZ,ag,Nat.reduceAdd,Nat.reduceBEq,lJ,an,aU,bI,ah,decide_eq_true n1,decide_eq_true n2,decide_eq_true n3,decide_eq_true n4,decide_eq_true n5,decide_eq_true n6,decide_eq_true n7]
  exact⟨rfl,by rw[decide_eq_true (by cases a;cases b;simp only[aB.mk.injEq];exact⟨n1,n2,n3,n4,n5,n6,n7⟩)]⟩
theorem LI(β β':Bool)(a b:aM)(ha:a.ok 1073741824)(h:AH):T Tryz.prog Γ Fn.RQ [.agg (a.c β),.agg (b.c β')] h fun v h'=>v=.bool (decide (a=b))∧h'=h:=by
  have ht:∀x y:js,cV .eql (.agg [.int .i64,.int .i64,.int .i64]) (.agg [.int .i64 x.vat,.int .i64 x.entity,.int .i64 x.seq]) (.agg [.int .i64 y.vat,.int .i64 y.entity,.int .i64 y.seq])=some (.bool (decide (x=y))):=fun x y=>by rw[Bs];simp only[js.dec]
  refine Rl (au aC aD [] _ _ _ ?_)
  unfold Ki
  simp only[aM.c]
  by_cases n1:a.target=b.target
  rotate_left
  · simp only[EZ,ag,Nat.reduceAdd,Nat.reduceBEq,rD,an,aU,bI,ah,ht,decide_eq_false n1]
    refine⟨rfl,?_⟩;rw[decide_eq_false (fun e=>n1 (by rw[e]))]
  by_cases n2:a.name=b.name
  rotate_left
  · simp only[EZ,ag,Nat.reduceAdd,Nat.reduceBEq,rD,an,aU,bI,ah,ht,decide_eq_false n2,decide_eq_true n1]
    refine⟨rfl,?_⟩;rw[decide_eq_false (fun e=>n2 (by rw[e]))]
  simp only[EZ,ag,Nat.reduceAdd,Nat.reduceBEq,rD,an,aU,bI,ah,ht,decide_eq_true n1,decide_eq_true n2]
  refine al.val (by simp only[EO]) (jf β β' _ _ ha.2 _) ?_
  by_cases n3:a.args=b.args
  rotate_left
  · simp only[EZ,ag,Nat.reduceAdd,Nat.reduceBEq,rD,an,aU,bI,ah,ht,decide_eq_false n3,decide_eq_true n1,decide_eq_true n2]
    refine⟨rfl,?_⟩;rw[decide_eq_false (fun e=>n3 (by rw[e]))]
  by_cases n4:a.result=b.result
  rotate_left
  · simp only[EZ,ag,Nat.reduceAdd,Nat.reduceBEq,rD,an,aU,bI,ah,ht,decide_eq_false n4,decide_eq_true n1,decide_eq_true n2,decide_eq_true n3]
    refine⟨rfl,?_⟩;rw[decide_eq_false (fun e=>n4 (by rw[e]))]
  by_cases n5:a.tag=b.tag
  rotate_left
  · simp only[EZ,ag,Nat.reduceAdd,Nat.reduceBEq,rD,an,aU,bI,ah,ht,decide_eq_false n5,decide_eq_true n1,decide_eq_true n2,decide_eq_true n3,decide_eq_true n4]
    refine⟨rfl,?_⟩;rw[decide_eq_false (fun e=>n5 (by rw[e]))]
  simp only[EZ,ag,Nat.reduceAdd,Nat.reduceBEq,rD,an,aU,bI,ah,ht,decide_eq_true n1,decide_eq_true n2,decide_eq_true n3,decide_eq_true n4,decide_eq_true n5]
  exact⟨rfl,by rw[decide_eq_true (by cases a;cases b;simp only[aM.mk.injEq];exact⟨n1,n2,n3,n4,n5⟩)]⟩
theorem JL(β β':Bool)(l m:List aM)(hl:l.length≤1073741824)(ho:∀x∈l,x.ok 1073741824)(h:AH):T Tryz.prog Γ Fn.RP [.vs β 7 false (l.map (aM.c β)),.vs β' 7 false (m.map (aM.c β'))] h fun v h'=>v=.bool (decide (l=m))∧h'=h:=by
  refine MM (au aC aD [] _ _ _ ?_)
  unfold Gt
  simp only[EZ,ag,Nat.reduceAdd,Nat.reduceBEq,DC]
  have hcall:=jY (P:=Tryz.prog) (Γ:=Γ) aC aD (sz:=7) (sz':=7) rfl rfl (fun hw=>OA hw) (β:=β) (β':=β') (l:=l) (m:=m) (c:=aM.c β) (c':=aM.c β') (by omega) (fun x=>⟨rfl,rfl⟩) (fun x=>⟨rfl,rfl⟩)
    (g:=Fn.RQ) (first:=[]) (caps:=[]) rfl (fun x y=>decide (x=y)) (h:=h) (fun x hx y _=>LI β β' x y (ho x hx) h)
  refine al.val (by simp only[EO]) hcall ?_
  simp only[EZ,ag,Nat.reduceAdd,Nat.reduceBEq,DC,eR]
  first|exact⟨rfl,rfl⟩|exact rfl
theorem PO(β β':Bool)(a b:aq)(ha:a.ok 1073741824)(h:AH):T Tryz.prog Γ Fn.Mh [.agg (a.c β),.agg (b.c β')] h fun v h'=>v=.bool (decide (a=b))∧h'=h:=by
  have hv:∀x y:ae,cV .eql (.agg [.int .i64,.int .i64]) (.agg [.int .i64 x.kind,.int .i64 x.n]) (.agg [.int .i64 y.kind,.int .i64 y.n])=some (.bool (decide (x=y))):=fun x y=>by rw[pK];simp only[ae.dec]
  refine Py (au aC aD [] _ _ _ ?_)
  unfold I6
  simp only[aq.c]
  by_cases n1:a.kind=b.kind
  rotate_left
  · simp only[EZ,ag,Nat.reduceAdd,Nat.reduceBEq,jt,an,aU,bI,ah,hv,decide_eq_false n1]
    refine⟨rfl,?_⟩;rw[decide_eq_false (fun e=>n1 (by rw[e]))]
  by_cases n2:a.script=b.script
  rotate_left
  · simp only[EZ,ag,Nat.reduceAdd,Nat.reduceBEq,jt,an,aU,bI,ah,hv,decide_eq_false n2,decide_eq_true n1]
    refine⟨rfl,?_⟩;rw[decide_eq_false (fun e=>n2 (by rw[e]))]
  simp only[EZ,ag,Nat.reduceAdd,Nat.reduceBEq,jt,an,aU,bI,ah,hv,decide_eq_true n1,decide_eq_true n2]
  refine al.val (by simp only[EO]) (jf β β' _ _ ha.1 _) ?_
  by_cases n3:a.slots=b.slots
  rotate_left
  · simp only[EZ,ag,Nat.reduceAdd,Nat.reduceBEq,jt,an,aU,bI,ah,hv,decide_eq_false n3,decide_eq_true n1,decide_eq_true n2]
    refine⟨rfl,?_⟩;rw[decide_eq_false (fun e=>n3 (by rw[e]))]
  by_cases n4:a.state=b.state
  rotate_left
  · simp only[EZ,ag,Nat.reduceAdd,Nat.reduceBEq,jt,an,aU,bI,ah,hv,decide_eq_false n4,decide_eq_true n1,decide_eq_true n2,decide_eq_true n3]
    refine⟨rfl,?_⟩;rw[decide_eq_false (fun e=>n4 (by rw[e]))]
  by_cases n5:a.value=b.value
  rotate_left
  · simp only[EZ,ag,Nat.reduceAdd,Nat.reduceBEq,jt,an,aU,bI,ah,hv,decide_eq_false n5,decide_eq_true n1,decide_eq_true n2,decide_eq_true n3,decide_eq_true n4]
    refine⟨rfl,?_⟩;rw[decide_eq_false (fun e=>n5 (by rw[e]))]
  simp only[EZ,ag,Nat.reduceAdd,Nat.reduceBEq,jt,an,aU,bI,ah,hv,decide_eq_true n1,decide_eq_true n2,decide_eq_true n3,decide_eq_true n4,decide_eq_true n5]
  refine al.val (by simp only[EO]) (JL β β' _ _ ha.2.1 ha.2.2.1 _) ?_
  by_cases n6:a.queue=b.queue
  rotate_left
  · simp only[EZ,ag,Nat.reduceAdd,Nat.reduceBEq,jt,an,aU,bI,ah,hv,decide_eq_false n6,decide_eq_true n1,decide_eq_true n2,decide_eq_true n3,decide_eq_true n4,decide_eq_true n5]
    refine⟨rfl,?_⟩;rw[decide_eq_false (fun e=>n6 (by rw[e]))]
  simp only[EZ,ag,Nat.reduceAdd,Nat.reduceBEq,jt,an,aU,bI,ah,hv,decide_eq_true n1,decide_eq_true n2,decide_eq_true n3,decide_eq_true n4,decide_eq_true n5,decide_eq_true n6]
  refine al.val (by simp only[EO]) (lU β β' _ _ ha.2.2.2 _) ?_
  by_cases n7:a.askers=b.askers
  rotate_left
  · simp only[EZ,ag,Nat.reduceAdd,Nat.reduceBEq,jt,an,aU,bI,ah,hv,decide_eq_false n7,decide_eq_true n1,decide_eq_true n2,decide_eq_true n3,decide_eq_true n4,decide_eq_true n5,decide_eq_true n6]
    refine⟨rfl,?_⟩;rw[decide_eq_false (fun e=>n7 (by rw[e]))]
  by_cases n8:a.peer=b.peer
  rotate_left
  · simp only[EZ,ag,Nat.reduceAdd,Nat.reduceBEq,jt,an,aU,bI,ah,hv,decide_eq_false n8,decide_eq_true n1,decide_eq_true n2,decide_eq_true n3,decide_eq_true n4,decide_eq_true n5,decide_eq_true n6,decide_eq_true n7]
    refine⟨rfl,?_⟩;rw[decide_eq_false (fun e=>n8 (by rw[e]))]
  by_cases n9:a.pos=b.pos
  rotate_left
  · simp only[EZ,ag,Nat.reduceAdd,Nat.reduceBEq,jt,an,aU,bI,ah,hv,decide_eq_false n9,decide_eq_true n1,decide_eq_true n2,decide_eq_true n3,decide_eq_true n4,decide_eq_true n5,decide_eq_true n6,decide_eq_true n7,decide_eq_true n8]
    refine⟨rfl,?_⟩;rw[decide_eq_false (fun e=>n9 (by rw[e]))]
  by_cases n10:a.count=b.count
  rotate_left
  · simp only[EZ,ag,Nat.reduceAdd,Nat.reduceBEq,jt,an,aU,bI,ah,hv,decide_eq_false n10,decide_eq_true n1,decide_eq_true n2,decide_eq_true n3,decide_eq_true n4,decide_eq_true n5,decide_eq_true n6,decide_eq_true n7,decide_eq_true n8,decide_eq_true n9]
    refine⟨rfl,?_⟩;rw[decide_eq_false (fun e=>n10 (by rw[e]))]
  by_cases n11:a.sent=b.sent
  rotate_left
  · simp only[EZ,ag,Nat.reduceAdd,Nat.reduceBEq,jt,an,aU,bI,ah,hv,decide_eq_false n11,decide_eq_true n1,decide_eq_true n2,decide_eq_true n3,decide_eq_true n4,decide_eq_true n5,decide_eq_true n6,decide_eq_true n7,decide_eq_true n8,decide_eq_true n9,decide_eq_true n10]
    refine⟨rfl,?_⟩;rw[decide_eq_false (fun e=>n11 (by rw[e]))]
  simp only[EZ,ag,Nat.reduceAdd,Nat.reduceBEq,jt,an,aU,bI,ah,hv,decide_eq_true n1,decide_eq_true n2,decide_eq_true n3,decide_eq_true n4,decide_eq_true n5,decide_eq_true n6,decide_eq_true n7,decide_eq_true n8,decide_eq_true n9,decide_eq_true n10,decide_eq_true n11]
  exact⟨rfl,by rw[decide_eq_true (by cases a;cases b;simp only[aq.mk.injEq];exact⟨n1,n2,n3,n4,n5,n6,n7,n8,n9,n10,n11⟩)]⟩
theorem Lg(β β':Bool)(a b:ar)(ha:a.ok 1073741824)(h:AH):T Tryz.prog Γ Fn.SX [.vs β 12 false (a.entities.map (aq.c β)),.vs β' 12 false (b.entities.map (aq.c β')),.fn Fn.Mh [] []] h fun v h'=>v=.bool (decide (a.entities=b.entities))∧h'=h:=by
  have:=jY (P:=Tryz.prog) (Γ:=Γ) aC aD (sz:=12) (sz':=12) rfl rfl (fun hw=>Oe hw) (β:=β) (β':=β') (l:=a.entities) (m:=b.entities) (c:=aq.c β) (c':=aq.c β') (by have:=ha.1;omega) (fun x=>⟨rfl,rfl⟩) (fun x=>⟨rfl,rfl⟩)
    (g:=Fn.Mh) (first:=[]) (caps:=[]) rfl (fun x y=>decide (x=y)) (h:=h) (fun x hx y _=>PO β β' x y (ha.2.1 x hx) h)
  simpa only[eR]using this
theorem FB(β β':Bool)(a b:ar)(ha:a.ok 1073741824)(h:AH):T Tryz.prog Γ Fn.SL [.vs β 7 false (a.links.map (aB.c β)),.vs β' 7 false (b.links.map (aB.c β')),.fn Fn.Pq [] []] h fun v h'=>v=.bool (decide (a.links=b.links))∧h'=h:=by
  have:=jY (P:=Tryz.prog) (Γ:=Γ) aC aD (sz:=7) (sz':=7) rfl rfl (fun hw=>Ni hw) (β:=β) (β':=β') (l:=a.links) (m:=b.links) (c:=aB.c β) (c':=aB.c β') (by have:=ha.2.2.2.2.1;omega) (fun x=>⟨rfl,rfl⟩) (fun x=>⟨rfl,rfl⟩)
    (g:=Fn.Pq) (first:=[]) (caps:=[]) rfl (fun x y=>decide (x=y)) (h:=h) (fun x hx y _=>QM β β' x y (ha.2.2.2.2.2.1 x hx) h)
  simpa only[eR]using this
theorem Lf(β β':Bool)(a b:ar)(ha:a.ok 1073741824)(h:AH):T Tryz.prog Γ Fn.Sq [.vs β 13 false (a.out.map (aJ.c β)),.vs β' 13 false (b.out.map (aJ.c β')),.fn Fn.NC [] []] h fun v h'=>v=.bool (decide (a.out=b.out))∧h'=h:=by
  have:=jY (P:=Tryz.prog) (Γ:=Γ) aC aD (sz:=13) (sz':=13) rfl rfl (fun hw=>MJ hw) (β:=β) (β':=β') (l:=a.out) (m:=b.out) (c:=aJ.c β) (c':=aJ.c β') (by have:=ha.2.2.2.2.2.2.1;omega) (fun x=>⟨rfl,rfl⟩) (fun x=>⟨rfl,rfl⟩)
    (g:=Fn.NC) (first:=[]) (caps:=[]) rfl (fun x y=>decide (x=y)) (h:=h) (fun x hx y _=>OW β β' x y (ha.2.2.2.2.2.2.2 x hx) h)
  simpa only[eR]using this
theorem JV(β β':Bool)(a b:ar)(ha:a.ok 1073741824)(h:AH):T Tryz.prog Γ Fn.RU [.agg (a.c β),.agg (b.c β')] h fun v h'=>v=.bool (decide (a=b))∧h'=h:=by
  refine My (au aC aD [] _ _ _ ?_)
  unfold Gr
  simp only[ar.c]
  by_cases n1:a.id=b.id
  rotate_left
  · simp only[EZ,ag,Nat.reduceAdd,Nat.reduceBEq,lW,an,aU,bI,ah,eR,decide_eq_false n1]
    refine⟨rfl,?_⟩;rw[decide_eq_false (fun e=>n1 (by rw[e]))]
  simp only[EZ,ag,Nat.reduceAdd,Nat.reduceBEq,lW,an,aU,bI,ah,eR,decide_eq_true n1]
  refine al.val (by simp only[EO]) (Lg β β' a b ha _) ?_
  by_cases n2:a.entities=b.entities
  rotate_left
  · simp only[EZ,ag,Nat.reduceAdd,Nat.reduceBEq,lW,an,aU,bI,ah,eR,decide_eq_false n2,decide_eq_true n1]
    refine⟨rfl,?_⟩;rw[decide_eq_false (fun e=>n2 (by rw[e]))]
  simp only[EZ,ag,Nat.reduceAdd,Nat.reduceBEq,lW,an,aU,bI,ah,eR,decide_eq_true n1,decide_eq_true n2]
  refine al.val (by simp only[EO]) (JL β β' _ _ ha.2.2.1 ha.2.2.2.1 _) ?_
  by_cases n3:a.loop=b.loop
  rotate_left
  · simp only[EZ,ag,Nat.reduceAdd,Nat.reduceBEq,lW,an,aU,bI,ah,eR,decide_eq_false n3,decide_eq_true n1,decide_eq_true n2]
    refine⟨rfl,?_⟩;rw[decide_eq_false (fun e=>n3 (by rw[e]))]
  simp only[EZ,ag,Nat.reduceAdd,Nat.reduceBEq,lW,an,aU,bI,ah,eR,decide_eq_true n1,decide_eq_true n2,decide_eq_true n3]
  refine al.val (by simp only[EO]) (FB β β' a b ha _) ?_
  by_cases n4:a.links=b.links
  rotate_left
  · simp only[EZ,ag,Nat.reduceAdd,Nat.reduceBEq,lW,an,aU,bI,ah,eR,decide_eq_false n4,decide_eq_true n1,decide_eq_true n2,decide_eq_true n3]
    refine⟨rfl,?_⟩;rw[decide_eq_false (fun e=>n4 (by rw[e]))]
  simp only[EZ,ag,Nat.reduceAdd,Nat.reduceBEq,lW,an,aU,bI,ah,eR,decide_eq_true n1,decide_eq_true n2,decide_eq_true n3,decide_eq_true n4]
  refine al.val (by simp only[EO]) (Lf β β' a b ha _) ?_
  by_cases n5:a.out=b.out
  rotate_left
  · simp only[EZ,ag,Nat.reduceAdd,Nat.reduceBEq,lW,an,aU,bI,ah,eR,decide_eq_false n5,decide_eq_true n1,decide_eq_true n2,decide_eq_true n3,decide_eq_true n4]
    refine⟨rfl,?_⟩;rw[decide_eq_false (fun e=>n5 (by rw[e]))]
  simp only[EZ,ag,Nat.reduceAdd,Nat.reduceBEq,lW,an,aU,bI,ah,eR,decide_eq_true n1,decide_eq_true n2,decide_eq_true n3,decide_eq_true n4,decide_eq_true n5]
  exact⟨rfl,by rw[decide_eq_true (by cases a;cases b;simp only[ar.mk.injEq];exact⟨n1,n2,n3,n4,n5⟩)]⟩
end Go.Proofs.YtccjhmhkfnnmaaaGreat
namespace Go.Proofs.YtccjhmhkfnnmaaaGreat
open Go.AM
variable {Γ:bY}
def du(v:ar):List Int:=v.entities.map fun e=>e.sent
theorem jO(v:ar)(n:Int)(e:aq)(h:e.sent=(aA v n).sent):du (fP v n.toNat e)=du v:=by
  simp only[du,fP,List.map_set]
  apply List.ext_getElem?
  intro i
  by_cases hi:n.toNat=i
  · subst hi
    by_cases hk:n.toNat<v.entities.length
    · rw[List.getElem?_set_self (by simpa using hk),List.getElem?_map,List.getElem?_eq_getElem hk,h,aA,List.getD_eq_getElem?_getD,List.getElem?_eq_getElem hk]
      rfl
    · rw[List.set_eq_of_length_le (by simpa using hk)]
  · rw[List.getElem?_set_ne hi]
theorem ll.BL{v v':ar}(h:ll v v'):du v'=du v:=by rw[du,h.ents];rfl
theorem Ae(v:ar)(s:aM)(peer pos ans:Int):du (dH v s peer pos ans)=du v:=by
  have sm:=(oB v s peer).1.trans (mD (bV v s peer) peer s.result).1
  rw[dH,(jD _ _ _).1.BL,db,jO _ _ _ (by rw[sm.aA];rfl),sm.BL]
theorem kX{α:Type}{D:ar→α→ar}(h:∀v s,du (D v s)=du v):∀(q:List α) (v:ar),du (q.foldl D v)=du v
  | [],v=>rfl
  | s::q,v=>by rw[List.foldl_cons,kX h q,h]
theorem rP{D:ar→aM→ar}(h:∀v s,du (D v s)=du v)(v:ar)(s:aM)(peer pos ans:Int):du (fM D v s peer pos ans)=du v:=by
  unfold fM
  split
  · rw[kX h,Ae]
  · rfl
theorem uk(y:ae)(v:ar)(a:cf):du (c7 y v a)=du v:=by
  unfold c7
  split
  · exact jO _ _ _ rfl
  · rw[(jD _ _ _).1.BL,(kT _ _ _).1.BL]
theorem AU{D:ar→aM→ar}(h:∀v s,du (D v s)=du v)(v:ar)(p:Int)(x:ae):du (fZ D v p x)=du v:=by
  unfold fZ
  split
  · rw[kX (uk _),kX h]
    exact jO _ _ _ rfl
  · rfl
theorem rQ:∀(n:Nat) (v:ar) (s:aM),du (aT n v s)=du v
  | 0,_,_=>rfl
  | n+1,v,s=>by
    have h:=rQ n
    unfold aT
    repeat' split
    all_goals first|rfl|exact AU h _ _ _|exact rP h _ _ _ _ _|exact jO _ _ _ rfl|exact(jO _ _ (eI _) rfl).trans (rP h _ _ _ _ _)
def jB(x:ar)(p:Int):Bool:=hQ x p && decide (cg x ⟨1,p⟩=aR)
theorem px{x:ar}{p:Int}(h1:cO p x.entities.length=true)(h2:(aA x p).kind=2)(h3:(aA x p).state=1∨(aA x p).state=3):jB x p=false:=by
  obtain⟨k,hk,e1,_,e3⟩:=cm h1
  have hn:jR x.entities ⟨1,p⟩=none:=by
    rw[pP rfl hk e1,←e3,if_neg (by rintro⟨_,h⟩;omega)]
  have hl:cg x ⟨1,p⟩=⟨1,p⟩:=kV hn
  have hp:gA x ⟨1,p⟩=true:=by
    rw[qk,jv,h1,ju,h2]
    rcases h3 with g|g<;>simp[g]
  rw[jB,hQ,hl,hp];simp
theorem Fh{x:ar}{p:Int}(h1:cO p x.entities.length=true)(h2:(aA x p).kind=2)(h3:(aA x p).state=2)(h4:(aA x p).value=aR)(hl:1≤x.entities.length):jB x p=true:=by
  obtain⟨k,hk,e1,_,e3⟩:=cm h1
  have hn:jR x.entities ⟨1,p⟩=some aR:=by
    rw[pP rfl hk e1,←e3,if_pos ⟨h2,h3⟩,h4]
  have hl:cg x ⟨1,p⟩=aR:=by
    obtain⟨m,hm⟩:∃m,x.entities.length=m+1:=⟨x.entities.length-1,by omega⟩
    unfold cg
    rw[yO hn,hm,kV (kv (by simp[aR]))]
  rw[jB,hQ,hl,h1]
  simp[gA,aR]
theorem CH(l:List aq)(k:Nat)(e:aq)(hk:k<l.length):iA (l.set k e)+l[k].queue.length=iA l+e.queue.length:=by
  have:=po (fun e:aq=>e.queue.length) l k e hk
  unfold iA;exact this
theorem kP{v:ar}{n:Int}(h:cO n v.entities.length=true)(e:aq):c6 (fP v n.toNat e)+(aA v n).queue.length=c6 v+e.queue.length:=by
  obtain⟨k,hk,_,e2,e3⟩:=cm h
  have:=CH v.entities k e hk
  rw[e2,e3];simp only[c6,fP];omega
theorem ia{v:ar}{n:Int}(h:cO n v.entities.length=true)(e:aq):aA (fP v n.toNat e) n=e:=by
  obtain⟨k,hk,_,e2,_⟩:=cm h
  simp[aA,fP,e2,hk]
theorem kf{v:ar}{n m:Int}(h:m.toNat≠n.toNat)(e:aq):aA (fP v n.toNat e) m=aA v m:=by
  simp[aA,fP,List.getElem?_set_ne (Ne.symm h)]
theorem Lj(y:ar)(peer p q:Int):su (iJ y peer p).links q=su y.links q:=by
  refine A3 ?_ q
  simp only[iJ,oZ,List.map_set]
  apply List.ext_getElem?
  intro i
  by_cases hi:FH y peer=i
  · subst hi
    by_cases hk:FH y peer<y.links.length
    · rw[List.getElem?_set_self (by simpa using hk),List.getElem?_map,List.getElem?_eq_getElem hk,List.getD_eq_getElem?_getD,List.getElem?_eq_getElem hk]
      rfl
    · rw[List.set_eq_of_length_le (by simpa using hk)]
  · rw[List.getElem?_set_ne hi]
theorem zT{w:ar}{s:aM}{peer pos ans:Int}(he:aA w s.result=cN)(hc:cQ w s peer=true):cO s.result (dH w s peer pos ans).entities.length=true∧(aA (dH w s peer pos ans) s.result).kind=2∧(aA (dH w s peer pos ans) s.result).state=3∧c6 (dH w s peer pos ans)=c6 w+1:=by
  obtain⟨h1,h2,_,_⟩:=sK hc
  obtain⟨w1,_,_⟩:=oB w s peer
  have sm:=w1.trans (mD (bV w s peer) peer s.result).1
  have h2':cO s.result (iJ (bV w s peer) peer s.result).entities.length=true:=by rw[sm.ents];exact h2
  have e1:aA (dH w s peer pos ans) s.result=hS cN peer (oK (bV w s peer) peer s.result):=by
    rw[dH,(jD _ _ _).1.aA,db,ia h2',he]
  have up:su (db w s peer).links peer=true:=by
    show su (iJ (bV w s peer) peer s.result).links peer=true
    rw[Lj,bV,A3 (kc peer s.args w)];exact h1
  have la:c6 (db w s peer)=c6 w:=by
    have:=kP h2' (hS (aA w s.result) peer (oK (bV w s peer) peer s.result))
    rw[sm.aA,he]at this
    have e:c6 (iJ (bV w s peer) peer s.result)=c6 w:=by
      simp only[c6,sm.ents,sm.loop]
      have:(iJ (bV w s peer) peer s.result).out=w.out:=(jN peer s.args w).2.2.1
      rw[this]
    rw[db,he]
    simp only[hS,cN,List.length_nil]at this ⊢
    omega
  refine⟨?_,by rw[e1];rfl,by rw[e1];rfl,?_⟩
  · rw[dH,(jD _ _ _).1.ents,db,eP];exact h2'
  · have ep:dH w s peer pos ans={ db w s peer with out:=(db w s peer).out++[⟨peer,gb s pos ans (oK (bV w s peer) peer s.result) (aL w peer s.args).2⟩] }:=by rw[dH,fF,if_pos up]
    rw[ep]
    simp only[c6,oY,List.filter_append,List.length_append,gb]at la ⊢
    simp
    omega
theorem Dl{n:Nat}{w:ar}{p:Int}(hp:cO p w.entities.length=true)(he:aA w p=cN):jB (fZ (aT n) w p aR) p=true∧c6 (fZ (aT n) w p aR)=c6 w:=by
  have ok:jv w p=true:=by rw[jv,hp,he];rfl
  have hf:ql w p:=fun _=>by rw[he];exact⟨rfl,rfl⟩
  have lb:cg w aR=aR:=kV (kv (by simp[aR]))
  have hy:pk w p aR=aR:=by
    rw[pk,lb,if_pos]
    have:¬aR=⟨1,p⟩:=fun h=>by injection h with h _;cases h
    simp[gw,aR]at this ⊢
  rw[k8 hf,rW,if_pos ok]
  have hs:=ia hp (iV (aA w p) (pk w p aR))
  have hl:1≤w.entities.length:=by obtain⟨k,hk,_⟩:=cm hp;omega
  refine⟨Fh (by unfold iF;rw[eP];exact hp) (by unfold iF;rw[hs,he];rfl) (by unfold iF;rw[hs];rfl) (by unfold iF;rw[hs,hy];rfl) (by unfold iF;rw[eP];exact hl),?_⟩
  have:=kP hp (iV (aA w p) (pk w p aR))
  rw[he]at this
  unfold iF
  rw[he]
  simp only[iV,cN,List.length_nil]at this ⊢
  omega
theorem toNat_ne{a b:Int}{n:Nat}(ha:cO a n=true)(hb:cO b n=true)(h:a≠b):a.toNat≠b.toNat:=by
  simp only[cO,Bool.and_eq_true,decide_eq_true_eq]at ha hb;omega
theorem C2{n:Nat}{w:ar}{s:aM}(hp:cO s.result w.entities.length=true)(he:aA w s.result=cN)(hki:KI w):
    (jB (aT (n+1) w s) s.result=true∧c6 (aT (n+1) w s)=c6 w)∨(jB (aT (n+1) w s) s.result=false∧c6 (aT (n+1) w s)=c6 w+1):=by
  have FAIL:=Dl (n:=n) hp he
  have hq:(aA w s.result).queue=[]:=by rw[he];rfl
  have CALL:∀peer pos ans,cQ w (iy w s) peer=true→jB (fM (aT n) w (iy w s) peer pos ans) s.result=false∧c6 (fM (aT n) w (iy w s) peer pos ans)=c6 w+1:=fun peer pos ans hc=>by
    rw[jX (s:=iy w s) hq hc]
    obtain⟨c1,c2,c3,c4⟩:=zT (s:=iy w s) (pos:=pos) (ans:=ans) he hc
    exact⟨px c1 c2 (.inr c3),c4⟩
  rw[aT]
  split
  rotate_left
  · exact .inl FAIL
  rename_i ht
  have hl:cO (iq w s).n w.entities.length=true:=(Bool.and_eq_true_iff.1 ht).2
  split
  · split
    · refine .inr ⟨px (by exact hp) (by show(aA w s.result).kind=2;rw[he];rfl) (.inl (by show(aA w s.result).state=1;rw[he];rfl)),?_⟩
      simp only[c6,List.length_append,List.length_cons,List.length_nil];omega
    · exact .inl FAIL
  split
  · split
    · rename_i hc
      exact .inr (CALL _ _ _ hc)
    · exact .inl FAIL
  split
  · split
    · rename_i hst
      split
      · rename_i hc
        have ne:(iq w s).n≠s.result:=fun e=>by rw[e,he]at hst;cases hst
        have c:=jX (D:=aT n) (s:=iy w s) (peer:=(aA w (iq w s).n).peer) (pos:=0) (ans:=(aA w (iq w s).n).pos) hq hc
        obtain⟨c1,c2,c3,c4⟩:=zT (s:=iy w s) (pos:=0) (ans:=(aA w (iq w s).n).pos) he hc
        rw[c]
        have hlen:=(yH (pos:=0) (ans:=(aA w (iq w s).n).pos) hc).1
        have hl':cO (iq w s).n (dH w (iy w s) (aA w (iq w s).n).peer 0 (aA w (iq w s).n).pos).entities.length=true:=by rw[hlen];exact hl
        have en:=kf (v:=dH w (iy w s) (aA w (iq w s).n).peer 0 (aA w (iq w s).n).pos) (n:=(iq w s).n) (m:=s.result) (toNat_ne hp hl (Ne.symm ne)) (eI (aA (dH w (iy w s) (aA w (iq w s).n).peer 0 (aA w (iq w s).n).pos) (iq w s).n))
        refine .inr ⟨px (by rw[eP];exact c1) (by rw[en];exact c2) (.inr (by rw[en];exact c3)),?_⟩
        have:=kP hl' (eI (aA (dH w (iy w s) (aA w (iq w s).n).peer 0 (aA w (iq w s).n).pos) (iq w s).n))
        have e:∀e:aq,(eI e).queue=e.queue:=fun _=>rfl
        rw[e]at this
        omega
      · exact .inl FAIL
    split
    · exact .inl FAIL
    split
    · have:=kP hl (kz (aA w (iq w s).n) (iy w s))
      have e:∀e:aq,(kz e (iy w s)).queue.length=e.queue.length+1:=fun _=>by simp[kz]
      rw[e]at this
      refine .inr ⟨?_,by omega⟩
      by_cases ne:(iq w s).n=s.result
      · rw[ne]
        have en:=ia hp (kz (aA w s.result) (iy w s))
        exact px (by rw[eP];exact hp) (by rw[en,he];rfl) (.inl (by rw[en,he];rfl))
      · have en:=kf (v:=w) (n:=(iq w s).n) (m:=s.result) (toNat_ne hp hl (Ne.symm ne)) (kz (aA w (iq w s).n) (iy w s))
        exact px (by rw[eP];exact hp) (by rw[en,he];rfl) (.inl (by rw[en,he];rfl))
    · exact .inl FAIL
  · exact .inl FAIL
theorem Cs{v v':ar}(h:du v'=du v){n:Int}(hn:cO n v.entities.length=true):(aA v' n).sent=(aA v n).sent∧cO n v'.entities.length=true:=by
  obtain⟨k,hk,e1,e2,e3⟩:=cm hn
  have hlen:v'.entities.length=v.entities.length:=by
    have:=congrArg List.length h
    simpa[du]using this
  have hn':cO n v'.entities.length=true:=by rw[hlen];exact hn
  obtain⟨k',hk',e1',_,e3'⟩:=cm hn'
  have kk:k'=k:=by omega
  subst kk
  refine⟨?_,hn'⟩
  have a:(du v')[k']? = some (v'.entities[k'].sent):=by simp[du,hk']
  have b:(du v)[k']? = some (v.entities[k'].sent):=by simp[du,hk]
  rw[h,b]at a
  rw[e3,e3']
  exact(Option.some.inj a).symm
theorem Cz{v:ar}{t:Int}{s:ByteArray}{l:List ae}(d:DI 0 v)(hg:lV v t s l=true):(aA (c5 v t s l).1 t).sent=IntKind.i64.wrap ((aA v t).sent+1)∧cO t (c5 v t s l).1.entities.length=true∧
    ((jB (c5 v t s l).1 v.entities.length=true∧c6 (c5 v t s l).1=c6 v)∨(jB (c5 v t s l).1 v.entities.length=false∧c6 (c5 v t s l).1=c6 v+1)):=by
  have e1:=(nD hg).1
  obtain⟨k,hk,ek,ek2,eA⟩:=cm e1
  have ef:(c5 v t s l).1=aT (je (bZ v t)+1) (bZ v t) (hU v t s l):=by rw[c5,if_pos hg]
  rw[ef]
  have hlen:(bZ v t).entities.length=v.entities.length+1:=by rw[bZ,eP];simp[gx]
  have ht:cO t (gx v).entities.length=true:=by
    have:=pv e1
    simpa[gx]using this
  have hs:(aA (bZ v t) t).sent=IntKind.i64.wrap ((aA v t).sent+1):=by
    rw[bZ,ia ht];rfl
  have hp:cO (v.entities.length:Int) (bZ v t).entities.length=true:=by
    rw[hlen];simp only[cO,Bool.and_eq_true,decide_eq_true_eq];omega
  have he:aA (bZ v t) (v.entities.length:Int)=cN:=by
    rw[bZ,kf (by omega)]
    simp[aA,gx]
  have ki:KI (bZ v t):=by
    have e2:cU (bZ v t)=cU v++[2]:=by
      rw[bZ,gP _ _ _ (by rw[kD e1];rfl)];simp[cU,gx,cN]
    intro k hk
    rw[e2]at hk
    rcases List.mem_append.1 hk with g|g
    · exact d.kd k g
    · rw[List.mem_singleton.1 g];exact .inr (.inl rfl)
  have hld:c6 (bZ v t)=c6 v:=by
    have:=kP ht (jA (aA v t))
    rw[kD e1]at this
    have e:c6 (gx v)=c6 v:=by simp[c6,iA,gx,cN]
    have e3:(jA (aA v t)).queue=(aA v t).queue:=rfl
    rw[e3]at this
    unfold bZ;omega
  obtain⟨g1,g2⟩:=Cs (rQ (je (bZ v t)+1) (bZ v t) (hU v t s l)) (n:=t) (by rw[hlen];exact pv e1)
  refine⟨g1.trans hs,g2,?_⟩
  have:=C2 (n:=je (bZ v t)) (w:=bZ v t) (s:=hU v t s l) hp he ki
  rw[hld]at this
  exact this
end Go.Proofs.YtccjhmhkfnnmaaaGreat
namespace Go.Proofs.YtccjhmhkfnnmaaaGreat
open Go.AM
variable {Γ:bY}
theorem Qv(bs:List Int)(h:AH):T Tryz.prog Γ Fn.Sj [.vs false 1 false (bs.map fun n=>[.int .u8 n])] h fun v h'=>v=.bool (decide (1048576<(bs.length:Int)))∧h'=h:=by
  have L0:=di false 1 false bs (fun n=>[AV.int .u8 n])
  refine LK (au aC aD [] _ _ _ ?_)
  unfold G9
  simp only[EZ,ag,Nat.reduceAdd,Nat.reduceBEq,J8,L0]
  first|exact⟨rfl,rfl⟩|exact rfl
theorem AP(v:ar)(t:Int)(name:ByteArray)(args:List ae)(hvi:VI v)(hki:KI v)(hw:wV v≤400000)(hn:name.size≤1048576)(ha:args.length≤1048576)(h:AH):T Tryz.prog Γ Fn.RF [.agg (v.c false),.int .i64 t,.str name,.vs false 2 false (args.map (ae.c false))] h fun r h'=>r=.tup [.agg ((c5 v t name args).1.c false),.int .i64 (c5 v t name args).2]∧h'=h:=by
  have:=(Mc (Γ:=Γ) false false v t name args hvi hki hw hn ha h).frozen
  simpa only[List.map_cons,List.map_nil,BU,Ca,Ld,Lk,CD.gI,ar.cu]using this
theorem A6(v:ar)(t:Int)(name:ByteArray)(args:List ae)(hvi:VI v)(hw:wV v≤400000)(hn:name.size≤1048576)(ha:args.length≤1048576)(h:AH):T Tryz.prog Γ Fn.Lq [.agg (v.c false),.int .i64 t,.str name,.vs false 2 false (args.map (ae.c false))] h fun r h'=>r=.tup [.agg ((c5 v t name args).1.c false),.int .i64 (c5 v t name args).2]∧h'=h:=by
  have:=(IA (Γ:=Γ) false false v t name args hvi hw hn ha h).frozen
  simpa only[List.map_cons,List.map_nil,BU,Ca,Ld,Lk,CD.gI,ar.cu]using this
set_option maxHeartbeats 8000000 in
set_option maxRecDepth 100000 in
theorem zJ(bs:List Int)(hb:bs.length≤maxLen)(hr:∀x∈bs,0≤x∧x<256)(h:AH):T Tryz.prog Γ Fn.Tb [.vs false 1 false (bs.map fun n=>[.int .u8 n])] h fun v h'=>v=.bool true∧h'=h:=by
  refine(?_:T Tryz.prog Γ Fn.Tb _ h fun v h'=>v=.bool true∧∃N,h'=h++N).drop (by rintro v h' ⟨rfl,N,rfl⟩;exact⟨N,rfl,.bool _,rfl,rfl⟩)
  refine Qk (au aC aD [] _ _ _ ?_)
  unfold G0
  simp only[EZ,ag,Nat.reduceAdd,Nat.reduceBEq,hC,dn,dk]
  refine al.val (by simp only[EO]) (Qv bs _) ?_
  by_cases nb:1048576<(bs.length:Int)
  · simp only[EZ,ag,Nat.reduceAdd,Nat.reduceBEq,hC,dn,dk,decide_eq_true nb]
    first|exact⟨rfl,rfl,[],by simp⟩|exact⟨rfl,[],by simp⟩
  simp only[EZ,ag,Nat.reduceAdd,Nat.reduceBEq,hC,dn,dk,decide_eq_false nb]
  refine al.ref (by simp only[EO]) (Bf bs (by omega) _) ?_
  rintro _ H ⟨⟨v,t,s,l,rfl,d,hs,hl⟩,he⟩
  replace he:H=h:=he
  subst he
  have hw:=d.w
  have okv:=d.vi.Lz
  obtain⟨x,hx⟩:∃x,x=(c5 v t s l).1:=⟨_,rfl⟩
  obtain⟨p,hp⟩:∃p,p=(c5 v t s l).2:=⟨_,rfl⟩
  obtain⟨xk1,xk2⟩:=BW v t s l
  rw[←hx]at xk1 xk2
  have xvi:=xk2 d.vi
  have okx:=xvi.Lz
  have eT:decide (x=x)=true:=decide_eq_true rfl
  simp only[EZ,ag,Nat.reduceAdd,Nat.reduceBEq,hC,dn,dk,aE,aO,ER,EF,ar.c,an,ah,iN]
  refine al.val (by simp only[EO,ar.fh]) (AP v t s l d.vi d.kd (by omega) (by omega) (by omega) _) ?_
  rw[←hx,←hp]
  simp only[EZ,ag,Nat.reduceAdd,Nat.reduceBEq,hC,dn,dk,aE,aO,ER,EF,ar.c,an,ah,iN]
  refine al.val (by simp only[EO,ar.fh]) (A6 v t s l d.vi (by omega) (by omega) (by omega) _) ?_
  rw[←hx,←hp]
  simp only[EZ,ag,Nat.reduceAdd,Nat.reduceBEq,hC,dn,dk,aE,aO,ER,EF,ar.c,an,ah,iN]
  simp only[decide_true,Bool.not_true]
  simp only[EZ,ag,Nat.reduceAdd,Nat.reduceBEq,hC,dn,dk,aE,aO,ER,EF,ar.c,an,ah,iN]
  refine al.val (by simp only[EO,ar.fh]) (JV false false x x (okx.mono (by omega)) _) ?_
  rw[eT]
  cases hg:lV v t s l
  · have es:c5 v t s l=(v,-1):=by rw[c5,if_neg (by rw[hg];simp)]
    rw[es]at hx hp
    simp only at hx hp
    subst hx hp
    simp only[EZ,ag,Nat.reduceAdd,Nat.reduceBEq,hC,dn,dk,aE,aO,ER,EF,ar.c,an,ah,iN,show decide ((-1:Int)<0)=true from rfl]
    refine al.val (by simp only[EO,ar.fh]) (JV false false x x (okx.mono (by omega)) _) ?_
    rw[eT]
    simp only[EZ,ag,Nat.reduceAdd,Nat.reduceBEq,hC,dn,dk,aE,aO,ER,EF,ar.c,an,ah,iN,show decide ((-1:Int)<0)=true from rfl]
    first|exact⟨rfl,rfl,[],by simp⟩|exact⟨rfl,[],by simp⟩|trace_state
  have hp':p=(v.entities.length:Int):=by rw[hp,c5,if_pos hg]
  have nlt:decide (p<0)=false:=decide_eq_false (by omega)
  obtain⟨s1,s2,s3⟩:=Cz d hg
  rw[←hx]at s1 s2 s3
  rw[←hp']at s3
  obtain⟨k,hk,ek,ek2,eA⟩:=cm (nD hg).1
  obtain⟨k',hk',ek',_,eX⟩:=cm s2
  have kk:k'=k:=by omega
  subst kk
  have i0:=dU (β:=false) (sz:=12) (ex:=false) (ce:=aq.c false) hk
  have i1:=dU (β:=false) (sz:=12) (ex:=false) (ce:=aq.c false) hk'
  rw[eA,eX]at s1
  rw[←ek]at i0 i1
  have eqV:∀x y:ae,cV .eql (.agg [.int .i64,.int .i64]) (.agg [.int .i64 x.kind,.int .i64 x.n]) (.agg [.int .i64 y.kind,.int .i64 y.n])=some (.bool (decide (x=y))):=fun x y=>by rw[pK];simp only[ae.dec]
  have eqB:cV .eql (.agg [.int .i64,.int .i64]) (.agg [.int .i64 (cg x ⟨1,p⟩).kind,.int .i64 (cg x ⟨1,p⟩).n]) (.agg [.int .i64 2,.int .i64 0])=some (.bool (decide (cg x ⟨1,p⟩=aR))):=eqV _ aR
  have LV:=di false 12 false v.entities (aq.c false)
  have ml0:c6 x=c6 v→IntKind.i64.wrap ((c6 x:Int)-(c6 v:Int))=0:=fun e=>by rw[e,Int.sub_self];rfl
  have ml1:c6 x=c6 v+1→IntKind.i64.wrap ((c6 x:Int)-(c6 v:Int))=1:=fun e=>by rw[e,show((c6 v+1:Nat):Int)-(c6 v:Int)=1 by omega];rfl
  have okv':v.ok 1048576:=okv.mono (by omega)
  have okx':x.ok 1048576:=okx.mono (by omega)
  have dp:decide (p=(v.entities.length:Int))=true:=decide_eq_true hp'
  have ds1:decide (x.entities[k'].sent=IntKind.i64.wrap (v.entities[k'].sent+1))=true:=decide_eq_true s1
  simp only[EZ,ag,Nat.reduceAdd,Nat.reduceBEq,hC,dn,dk,aE,aO,ER,EF,ar.c,an,ah,iN,nlt]
  refine al.val (by simp only[EO,ar.fh]) (Mo false x (by have:=xvi.ents;omega) p _) ?_
  cases hsd:hQ x p
  · have gf:jB x p=false:=by rw[jB,hsd];rfl
    have lf:c6 x=c6 v+1:=by
      rcases s3 with⟨g,_⟩|⟨_,g⟩
      · rw[gf]at g;cases g
      · exact g
    have lf':=ml1 lf
    simp only[EZ,ag,Nat.reduceAdd,Nat.reduceBEq,hC,dn,dk,aE,aO,ER,EF,ar.c,an,ah,iN]
    refine al.val (by simp only[EO,ar.fh]) (vB false x okx' _) ?_
    simp only[EZ,ag,Nat.reduceAdd,Nat.reduceBEq,hC,dn,dk,aE,aO,ER,EF,ar.c,an,ah,iN]
    try refine⟨fun r hr n cs hc=>by rw[show r=3 by simpa using hr]at hc ⊢;exact hc,?_⟩
    refine al.val (by simp only[EO,ar.fh]) (vB false v okv' _) ?_
    simp only[EZ,ag,Nat.reduceAdd,Nat.reduceBEq,hC,dn,dk,aE,aO,ER,EF,ar.c,an,ah,iN,lf',i0,i1,aq.c,ds1,LV,dp,show decide ((1:Int)=0)=false from rfl,show decide ((1:Int)=1)=true from rfl]
    first|exact⟨rfl,rfl,[],by simp⟩|exact⟨rfl,[],by simp⟩|trace_state
  · simp only[EZ,ag,Nat.reduceAdd,Nat.reduceBEq,hC,dn,dk,aE,aO,ER,EF,ar.c,an,ah,iN]
    refine al.val (by simp only[EO,ar.fh]) (N7 false x (by have:=xvi.ents;omega) p _) ?_
    simp only[EZ,ag,Nat.reduceAdd,Nat.reduceBEq,hC,dn,dk,aE,aO,ER,EF,ar.c,an,ah,iN]
    refine al.val (by simp only[EO]) (Aj _) ?_
    cases hbr:decide (cg x ⟨1,p⟩=aR)
    · have gf:jB x p=false:=by rw[jB,hsd,hbr];rfl
      have lf:c6 x=c6 v+1:=by
        rcases s3 with⟨g,_⟩|⟨_,g⟩
        · rw[gf]at g;cases g
        · exact g
      have lf':=ml1 lf
      rw[hbr]at eqB
      simp only[EZ,ag,Nat.reduceAdd,Nat.reduceBEq,hC,dn,dk,aE,aO,ER,EF,ar.c,an,ah,iN,ae.c,aR,eqB]
      refine al.val (by simp only[EO,ar.fh]) (vB false x okx' _) ?_
      simp only[EZ,ag,Nat.reduceAdd,Nat.reduceBEq,hC,dn,dk,aE,aO,ER,EF,ar.c,an,ah,iN]
      try refine⟨fun r hr n cs hc=>by rw[show r=3 by simpa using hr]at hc ⊢;exact hc,?_⟩
      refine al.val (by simp only[EO,ar.fh]) (vB false v okv' _) ?_
      simp only[EZ,ag,Nat.reduceAdd,Nat.reduceBEq,hC,dn,dk,aE,aO,ER,EF,ar.c,an,ah,iN,lf',i0,i1,aq.c,ds1,LV,dp,show decide ((1:Int)=0)=false from rfl,show decide ((1:Int)=1)=true from rfl]
      first|exact⟨rfl,rfl,[],by simp⟩|exact⟨rfl,[],by simp⟩|trace_state
    · have gf:jB x p=true:=by rw[jB,hsd,hbr];rfl
      have lf:c6 x=c6 v:=by
        rcases s3 with⟨_,g⟩|⟨g,_⟩
        · exact g
        · rw[gf]at g;cases g
      have lf':=ml0 lf
      rw[hbr]at eqB
      simp only[EZ,ag,Nat.reduceAdd,Nat.reduceBEq,hC,dn,dk,aE,aO,ER,EF,ar.c,an,ah,iN,ae.c,aR,eqB]
      refine al.val (by simp only[EO,ar.fh]) (vB false x okx' _) ?_
      simp only[EZ,ag,Nat.reduceAdd,Nat.reduceBEq,hC,dn,dk,aE,aO,ER,EF,ar.c,an,ah,iN]
      try refine⟨fun r hr n cs hc=>by rw[show r=3 by simpa using hr]at hc ⊢;exact hc,?_⟩
      refine al.val (by simp only[EO,ar.fh]) (vB false v okv' _) ?_
      simp only[EZ,ag,Nat.reduceAdd,Nat.reduceBEq,hC,dn,dk,aE,aO,ER,EF,ar.c,an,ah,iN,lf',i0,i1,aq.c,ds1,LV,dp,show decide ((0:Int)=0)=true from rfl,decide_true]
      first|exact⟨rfl,rfl,[],by simp⟩|exact⟨rfl,[],by simp⟩|trace_state
end Go.Proofs.YtccjhmhkfnnmaaaGreat
