import Derived.Test.YtdlbaonelfcahaaGreatDoorCodeNewGate
import Derived.Test.YtdlbaonelfcahaaGreatDoorAmG9
set_option linter.unusedVariables false
set_option linter.unusedSimpArgs false
namespace Go.Proofs.YtdlbaonelfcahaaGreatDoor
open Go.AM
variable {Γ:bG}
theorem E6(β:Bool)(x:ae)(h:AH):T Tryz.prog Γ Fn.LH [.agg (x.c β)] h fun v h'=>v=.agg (x.c false)∧h'=h:=by
  refine T8 (au aF mixed [] _ _ _ ?_)
  unfold Ft ae.c
  simp only[EY,Nat.reduceAdd,EG]
  exact rfl
theorem Ii(β:Bool)(l:List ae)(hl:l.length≤1048576)(h:AH):T Tryz.prog Γ Fn.U9 [.vs β 2 false (l.map (ae.c β))] h (bc h [.c (.sl 2 (l.map ae.cd))]):=
  gR (szs:=2) (sz:=2) (bytes:=16) (z:=[.int .i64 0,.int .i64 0]) (f:=Fn.LH) aF mixed (fun hw=>Se hw) (by simp[aX];omega) rfl rfl (fun x _=>⟨rfl,rfl⟩) (fun x _=>rfl) (fun x hx H=>(E6 β x H).flat (cs:=x.cd) (by simp[ae.cd,CD.flat]) (by rw[ae.cr]))
theorem Hz(β:Bool)(l:List ae)(hl:l.length≤maxLen)(left:Int)(h0:0≤left)(h1:left≤1048576)(h:AH):T Tryz.prog Γ Fn.Vz [.vs β 2 false (l.map (ae.c β)),.int .i64 left] h fun v h'=>v=.int .i64 (lx l left)∧h'=h:=
  vN aF mixed (fun hw=>QH hw) h0 h1 hl
theorem Ja(β β':Bool)(x y:ae)(h:AH):T Tryz.prog Γ Fn.K9 [.agg (x.c β),.agg (y.c β')] h fun v h'=>v=.bool (decide (x=y))∧h'=h:=by
  refine Sq (au aF mixed [] _ _ _ ?_)
  unfold I6 ae.c
  simp only[EY,Nat.reduceAdd,qZ,ay,aQ,aZ]
  by_cases n1:x.kind=y.kind
  rotate_left
  · simp only[EY,Nat.reduceAdd,qZ,decide_eq_false n1,Bool.not_false]
    exact⟨rfl,by rw[decide_eq_false (fun e=>n1 (by rw[e]))]⟩
  simp only[EY,Nat.reduceAdd,qZ,decide_eq_true n1,Bool.not_true,ay,aQ,aZ]
  by_cases n2:x.n=y.n
  rotate_left
  · simp only[EY,Nat.reduceAdd,qZ,decide_eq_false n2,Bool.not_false]
    exact⟨rfl,by rw[decide_eq_false (fun e=>n2 (by rw[e]))]⟩
  simp only[EY,Nat.reduceAdd,qZ,decide_eq_true n2,Bool.not_true,ay,aQ,aZ]
  exact⟨rfl,by rw[decide_eq_true (by cases x;cases y;simp only[ae.mk.injEq];exact⟨n1,n2⟩)]⟩
theorem FT(β β':Bool)(l m:List ae)(hl:l.length≤1073741824)(h:AH):T Tryz.prog Γ Fn.Vw [.vs β 2 false (l.map (ae.c β)),.vs β' 2 false (m.map (ae.c β'))] h fun v h'=>v=.bool (decide (l=m))∧h'=h:=
  lZ (f:=Fn.K9) aF mixed (fun hw=>Tl hw) (by omega) (fun x=>⟨rfl,rfl⟩) (fun x=>⟨rfl,rfl⟩) (fun x hx y _=>Ja β β' x y h)
theorem Io(β:Bool)(x:fc)(h:AH):T Tryz.prog Γ Fn.Uy [.agg (x.c β)] h fun v h'=>v=.agg (x.c false)∧h'=h:=by
  refine QD (au aF mixed [] _ _ _ ?_)
  unfold GK fc.c
  simp only[EY,Nat.reduceAdd,JI]
  exact rfl
theorem Hi(β β':Bool)(x y:fc)(h:AH):T Tryz.prog Γ Fn.Vg [.agg (x.c β),.agg (y.c β')] h fun v h'=>v=.bool (decide (x=y))∧h'=h:=by
  refine Od (au aF mixed [] _ _ _ ?_)
  unfold Hn fc.c
  simp only[EY,Nat.reduceAdd,mY,ay,aQ,aZ]
  by_cases n1:x.vat=y.vat
  rotate_left
  · simp only[EY,Nat.reduceAdd,mY,decide_eq_false n1,Bool.not_false]
    exact⟨rfl,by rw[decide_eq_false (fun e=>n1 (by rw[e]))]⟩
  simp only[EY,Nat.reduceAdd,mY,decide_eq_true n1,Bool.not_true,ay,aQ,aZ]
  by_cases n2:x.entity=y.entity
  rotate_left
  · simp only[EY,Nat.reduceAdd,mY,decide_eq_false n2,Bool.not_false]
    exact⟨rfl,by rw[decide_eq_false (fun e=>n2 (by rw[e]))]⟩
  simp only[EY,Nat.reduceAdd,mY,decide_eq_true n2,Bool.not_true,ay,aQ,aZ]
  by_cases n3:x.seq=y.seq
  rotate_left
  · simp only[EY,Nat.reduceAdd,mY,decide_eq_false n3,Bool.not_false]
    exact⟨rfl,by rw[decide_eq_false (fun e=>n3 (by rw[e]))]⟩
  simp only[EY,Nat.reduceAdd,mY,decide_eq_true n3,Bool.not_true,ay,aQ,aZ]
  exact⟨rfl,by rw[decide_eq_true (by cases x;cases y;simp only[fc.mk.injEq];exact⟨n1,n2,n3⟩)]⟩
theorem S8(β:Bool)(x:aA)(hx:x.ok 1048576)(h:AH):T Tryz.prog Γ Fn.UT [.agg (x.c β)] h (bc h [.a x.cd]):=by
  refine T.ez (Ov (au aF mixed [] _ _ _ ?_))
  unfold I1 aA.c
  simp only[EY,Nat.reduceAdd,yz]
  refine aq.ref (by simp only[EO]) (Ii β x.args (hx.2) _) ?_
  intro v1 h1 q1
  obtain⟨n1,f1,rfl,o1,nd1,b1⟩:=q1.one
  obtain⟨c1a,c1b,c1c,c1d⟩:=o1.cell
  simp only[EY,Nat.reduceAdd,c1a,c1b,c1c,c1d,yz]
  refine aq.val (by simp only[EO]) (Io β x.tag _) ?_
  simp only[EY,Nat.reduceAdd,fc.c,c1a,c1b,c1c,c1d,yz]
  refine⟨by simp only[EO,cR,c1a,c1b,c1c,c1d],_,n1,_,rfl,by simp,(.i (.s (.o o1 (.i (.i (.i (.i .nil))))))),?_,?_⟩
  · simpa using nd1
  · simpa using b1
theorem FA(β:Bool)(l:List aA)(hl:l.length≤1048576)(ho:∀x∈l,x.ok 1048576)(h:AH):T Tryz.prog Γ Fn.U3 [.vs β 7 false (l.map (aA.c β))] h (bc h [.c (.sl 7 (l.map aA.cd))]):=
  gR (szs:=7) (sz:=7) (bytes:=80) (z:=[.int .i64 0,.str ⟨#[]⟩,.nils,.int .i64 0,.int .i64 0,.int .i64 0,.int .i64 0]) (f:=Fn.UT) aF mixed (fun hw=>NR hw) (by simp[aX];omega) rfl rfl (fun x _=>⟨rfl,rfl⟩) (fun x _=>rfl) (fun x hx H=>S8 β x (ho x hx) H)
theorem SF(β:Bool)(x:aA)(hx:x.ok maxLen)(left:Int)(h0:0≤left)(h1:left≤1048576)(h:AH):T Tryz.prog Γ Fn.UF [.agg (x.c β),.int .i64 left] h fun v h'=>v=.int .i64 (x.dE left)∧h'=h:=by
  have hml:maxLen≤9223372036854775807:=by decide
  refine NZ (au aF mixed [] _ _ _ ?_)
  unfold Fz aA.c
  simp only[EY,Nat.reduceAdd,qu,bP]
  have hs1:x.name.size≤maxLen:=hx.1
  rw[aI (by omega) (by omega)]
  by_cases n1:(left-(x.name.size:Int))<0
  · simp only[EY,Nat.reduceAdd,qu,decide_eq_true n1]
    exact⟨rfl,by simp only[aA.dE,n1,if_true,if_false]⟩
  simp only[EY,Nat.reduceAdd,qu,decide_eq_false n1,bP]
  refine aq.val (by simp only[EO]) (Hz β x.args (hx.2) _ (by omega) (by omega) _) ?_
  simp only[EY,Nat.reduceAdd,qu,bP]
  by_cases n2:(lx x.args (left-(x.name.size:Int)))<0
  · simp only[EY,Nat.reduceAdd,qu,decide_eq_true n2]
    exact⟨rfl,by simp only[aA.dE,n2,if_true,if_false,n1]⟩
  simp only[EY,Nat.reduceAdd,qu,decide_eq_false n2,bP]
  have q2:=(fJ (Int.not_lt.1 n2)).2
  exact⟨rfl,by simp only[aA.dE,if_false,n1,n2]⟩
theorem GH(β:Bool)(l:List aA)(hl:l.length≤maxLen)(ho:∀x∈l,x.ok maxLen)(left:Int)(h0:0≤left)(h1:left≤1048576)(h:AH):T Tryz.prog Γ Fn.UL [.vs β 7 false (l.map (aA.c β)),.int .i64 left] h fun v h'=>v=.int .i64 (lv aA.dE l left)∧h'=h:=
  yK (f:=Fn.UF) aF mixed (fun hw=>Of hw) h0 h1 hl (fun x=>⟨rfl,rfl⟩) (fun x left a b c=>(aA.cP x left a b c).2) (fun x hx left a b=>SF β x (ho x hx) left a b h)
theorem Q2(β β':Bool)(x y:aA)(hx:x.ok 1073741824)(h:AH):T Tryz.prog Γ Fn.OM [.agg (x.c β),.agg (y.c β')] h fun v h'=>v=.bool (decide (x=y))∧h'=h:=by
  refine Ml (au aF mixed [] _ _ _ ?_)
  unfold Fe aA.c
  simp only[EY,Nat.reduceAdd,iA,ay,aQ,aZ]
  by_cases n1:x.target=y.target
  rotate_left
  · simp only[EY,Nat.reduceAdd,iA,decide_eq_false n1,Bool.not_false]
    exact⟨rfl,by rw[decide_eq_false (fun e=>n1 (by rw[e]))]⟩
  simp only[EY,Nat.reduceAdd,iA,decide_eq_true n1,Bool.not_true,ay,aQ,aZ]
  by_cases n2:x.name=y.name
  rotate_left
  · simp only[EY,Nat.reduceAdd,iA,decide_eq_false n2,Bool.not_false]
    exact⟨rfl,by rw[decide_eq_false (fun e=>n2 (by rw[e]))]⟩
  simp only[EY,Nat.reduceAdd,iA,decide_eq_true n2,Bool.not_true,ay,aQ,aZ]
  refine aq.val (by simp only[EO]) (FT β β' x.args y.args (hx.2) _) ?_
  simp only[EY,Nat.reduceAdd,iA,ay,aQ,aZ]
  by_cases n3:x.args=y.args
  rotate_left
  · simp only[EY,Nat.reduceAdd,iA,decide_eq_false n3,Bool.not_false]
    exact⟨rfl,by rw[decide_eq_false (fun e=>n3 (by rw[e]))]⟩
  simp only[EY,Nat.reduceAdd,iA,decide_eq_true n3,Bool.not_true,ay,aQ,aZ]
  by_cases n4:x.result=y.result
  rotate_left
  · simp only[EY,Nat.reduceAdd,iA,decide_eq_false n4,Bool.not_false]
    exact⟨rfl,by rw[decide_eq_false (fun e=>n4 (by rw[e]))]⟩
  simp only[EY,Nat.reduceAdd,iA,decide_eq_true n4,Bool.not_true,ay,aQ,aZ]
  refine aq.val (by simp only[EO]) (Hi β β' x.tag y.tag _) ?_
  simp only[EY,Nat.reduceAdd,iA,ay,aQ,aZ]
  by_cases n5:x.tag=y.tag
  rotate_left
  · simp only[EY,Nat.reduceAdd,iA,decide_eq_false n5,Bool.not_false]
    exact⟨rfl,by rw[decide_eq_false (fun e=>n5 (by rw[e]))]⟩
  simp only[EY,Nat.reduceAdd,iA,decide_eq_true n5,Bool.not_true,ay,aQ,aZ]
  exact⟨rfl,by rw[decide_eq_true (by cases x;cases y;simp only[aA.mk.injEq];exact⟨n1,n2,n3,n4,n5⟩)]⟩
theorem Ia(β β':Bool)(l m:List aA)(hl:l.length≤1073741824)(ho:∀x∈l,x.ok 1073741824)(h:AH):T Tryz.prog Γ Fn.UO [.vs β 7 false (l.map (aA.c β)),.vs β' 7 false (m.map (aA.c β'))] h fun v h'=>v=.bool (decide (l=m))∧h'=h:=
  lZ (f:=Fn.OM) aF mixed (fun hw=>S3 hw) (by omega) (fun x=>⟨rfl,rfl⟩) (fun x=>⟨rfl,rfl⟩) (fun x hx y _=>Q2 β β' x y (ho x hx) h)
theorem Tz(β:Bool)(x:aH)(h:AH):T Tryz.prog Γ Fn.U8 [.agg (x.c β)] h fun v h'=>v=.agg (x.c false)∧h'=h:=by
  refine Ps (au aF mixed [] _ _ _ ?_)
  unfold IY aH.c
  simp only[EY,Nat.reduceAdd,Fi]
  exact rfl
theorem Ns(β:Bool)(l:List aH)(hl:l.length≤1048576)(h:AH):T Tryz.prog Γ Fn.W6 [.vs β 2 false (l.map (aH.c β))] h (bc h [.c (.sl 2 (l.map aH.cd))]):=
  gR (szs:=2) (sz:=2) (bytes:=16) (z:=[.int .i64 0,.int .i64 0]) (f:=Fn.U8) aF mixed (fun hw=>Q4 hw) (by simp[aX];omega) rfl rfl (fun x _=>⟨rfl,rfl⟩) (fun x _=>rfl) (fun x hx H=>(Tz β x H).flat (cs:=x.cd) (by simp[aH.cd,CD.flat]) (by rw[aH.cr]))
theorem RO(β:Bool)(l:List aH)(hl:l.length≤maxLen)(left:Int)(h0:0≤left)(h1:left≤1048576)(h:AH):T Tryz.prog Γ Fn.Xl [.vs β 2 false (l.map (aH.c β)),.int .i64 left] h fun v h'=>v=.int .i64 (lx l left)∧h'=h:=
  vN aF mixed (fun hw=>M4 hw) h0 h1 hl
theorem Ot(β β':Bool)(x y:aH)(h:AH):T Tryz.prog Γ Fn.SY [.agg (x.c β),.agg (y.c β')] h fun v h'=>v=.bool (decide (x=y))∧h'=h:=by
  refine SC (au aF mixed [] _ _ _ ?_)
  unfold GD aH.c
  simp only[EY,Nat.reduceAdd,rF,ay,aQ,aZ]
  by_cases n1:x.peer=y.peer
  rotate_left
  · simp only[EY,Nat.reduceAdd,rF,decide_eq_false n1,Bool.not_false]
    exact⟨rfl,by rw[decide_eq_false (fun e=>n1 (by rw[e]))]⟩
  simp only[EY,Nat.reduceAdd,rF,decide_eq_true n1,Bool.not_true,ay,aQ,aZ]
  by_cases n2:x.question=y.question
  rotate_left
  · simp only[EY,Nat.reduceAdd,rF,decide_eq_false n2,Bool.not_false]
    exact⟨rfl,by rw[decide_eq_false (fun e=>n2 (by rw[e]))]⟩
  simp only[EY,Nat.reduceAdd,rF,decide_eq_true n2,Bool.not_true,ay,aQ,aZ]
  exact⟨rfl,by rw[decide_eq_true (by cases x;cases y;simp only[aH.mk.injEq];exact⟨n1,n2⟩)]⟩
theorem Pp(β β':Bool)(l m:List aH)(hl:l.length≤1073741824)(h:AH):T Tryz.prog Γ Fn.VG [.vs β 2 false (l.map (aH.c β)),.vs β' 2 false (m.map (aH.c β'))] h fun v h'=>v=.bool (decide (l=m))∧h'=h:=
  lZ (f:=Fn.SY) aF mixed (fun hw=>Oe hw) (by omega) (fun x=>⟨rfl,rfl⟩) (fun x=>⟨rfl,rfl⟩) (fun x hx y _=>Ot β β' x y h)
theorem My(β:Bool)(x:an)(hx:x.ok 1048576)(h:AH):T Tryz.prog Γ Fn.UK [.agg (x.c β)] h (bc h [.a x.cd]):=by
  refine T.ez (Tp (au aF mixed [] _ _ _ ?_))
  unfold JZ an.c
  simp only[EY,Nat.reduceAdd,rj]
  refine aq.ref (by simp only[EO]) (Ii β x.slots (hx.1) _) ?_
  intro v1 h1 q1
  obtain⟨n1,f1,rfl,o1,nd1,b1⟩:=q1.one
  obtain⟨c1a,c1b,c1c,c1d⟩:=o1.cell
  simp only[EY,Nat.reduceAdd,c1a,c1b,c1c,c1d,rj]
  refine aq.val (by simp only[EO]) (E6 β x.value _) ?_
  simp only[EY,Nat.reduceAdd,ae.c,c1a,c1b,c1c,c1d,rj]
  refine aq.ref (by simp only[EO]) (FA β x.queue (hx.2.1) (hx.2.2.1) _) ?_
  intro v2 h2 q2
  obtain⟨n2,f2,rfl,o2,nd2,b2⟩:=q2.one
  obtain⟨c2a,c2b,c2c,c2d⟩:=o2.cell
  simp only[EY,Nat.reduceAdd,c1a,c1b,c1c,c1d,c2a,c2b,c2c,c2d,rj]
  refine aq.ref (by simp only[EO]) (Ns β x.askers (hx.2.2.2) _) ?_
  intro v3 h3 q3
  obtain⟨n3,f3,rfl,o3,nd3,b3⟩:=q3.one
  obtain⟨c3a,c3b,c3c,c3d⟩:=o3.cell
  simp only[EY,Nat.reduceAdd,c1a,c1b,c1c,c1d,c2a,c2b,c2c,c2d,c3a,c3b,c3c,c3d,rj]
  refine⟨by simp only[EO,cR,c1a,c1b,c1c,c1d,c2a,c2b,c2c,c2d,c3a,c3b,c3c,c3d],_,n1++n2++n3,_,rfl,by simp,(.i (.i (.o o1.grow.grow (.i (.i (.i (.o o2.grow (.o o3 (.i (.i (.i (.i .nil)))))))))))),?_,?_⟩
  · simp only[List.append_nil]
    exact bR nd1 (bR nd2 (nd3) (fun b hb=>o2.lt b hb) (fun b hb=>by(try simp only[List.mem_append]at hb);first|(have:=b3 b hb;simp only[List.length_append]at this ⊢;omega))) (fun b hb=>o1.lt b hb) (fun b hb=>by(try simp only[List.mem_append]at hb);rcases hb with hb|hb<;>first|(have:=b2 b hb;simp only[List.length_append]at this ⊢;omega)|(have:=b3 b hb;simp only[List.length_append]at this ⊢;omega))
  · intro b hb
    simp only[List.append_nil,List.mem_append]at hb
    rcases hb with hb|hb|hb<;>first|(have:=b1 b hb;simp only[List.length_append]at this ⊢;omega)|(have:=b2 b hb;simp only[List.length_append]at this ⊢;omega)|(have:=b3 b hb;simp only[List.length_append]at this ⊢;omega)
theorem Ls(β:Bool)(l:List an)(hl:l.length≤1048576)(ho:∀x∈l,x.ok 1048576)(h:AH):T Tryz.prog Γ Fn.WS [.vs β 12 false (l.map (an.c β))] h (bc h [.c (.sl 12 (l.map an.cd))]):=
  gR (szs:=12) (sz:=12) (bytes:=144) (z:=[.int .i64 0,.int .i64 0,.nils,.int .i64 0,.int .i64 0,.int .i64 0,.nils,.nils,.int .i64 0,.int .i64 0,.int .i64 0,.int .i64 0]) (f:=Fn.UK) aF mixed (fun hw=>Qg hw) (by simp[aX];omega) rfl rfl (fun x _=>⟨rfl,rfl⟩) (fun x _=>rfl) (fun x hx H=>My β x (ho x hx) H)
theorem Rc(β:Bool)(x:an)(hx:x.ok maxLen)(left:Int)(h0:0≤left)(h1:left≤1048576)(h:AH):T Tryz.prog Γ Fn.UU [.agg (x.c β),.int .i64 left] h fun v h'=>v=.int .i64 (x.dE left)∧h'=h:=by
  have hml:maxLen≤9223372036854775807:=by decide
  refine N2 (au aF mixed [] _ _ _ ?_)
  unfold II an.c
  simp only[EY,Nat.reduceAdd,jM,bP]
  refine aq.val (by simp only[EO]) (Hz β x.slots (hx.1) _ (by omega) (by omega) _) ?_
  simp only[EY,Nat.reduceAdd,jM,bP]
  by_cases n1:(lx x.slots left)<0
  · simp only[EY,Nat.reduceAdd,jM,decide_eq_true n1]
    exact⟨rfl,by simp only[an.dE,n1,if_true,if_false]⟩
  simp only[EY,Nat.reduceAdd,jM,decide_eq_false n1,bP]
  have q1:=(fJ (Int.not_lt.1 n1)).2
  refine aq.val (by simp only[EO]) (GH β x.queue (hx.2.1) (hx.2.2.1) _ (by omega) (by omega) _) ?_
  simp only[EY,Nat.reduceAdd,jM,bP]
  by_cases n2:(lv aA.dE x.queue (lx x.slots left))<0
  · simp only[EY,Nat.reduceAdd,jM,decide_eq_true n2]
    exact⟨rfl,by simp only[an.dE,n2,if_true,if_false,n1]⟩
  simp only[EY,Nat.reduceAdd,jM,decide_eq_false n2,bP]
  have q2:=(gF (Q:=aA.ok 1048576) (B:=1048576) (fun x left a b c=>aA.cP x left a b c) (by omega) (by omega) (Int.not_lt.1 n2)).2
  refine aq.val (by simp only[EO]) (RO β x.askers (hx.2.2.2) _ (by omega) (by omega) _) ?_
  simp only[EY,Nat.reduceAdd,jM,bP]
  by_cases n3:(lx x.askers (lv aA.dE x.queue (lx x.slots left)))<0
  · simp only[EY,Nat.reduceAdd,jM,decide_eq_true n3]
    exact⟨rfl,by simp only[an.dE,n3,if_true,if_false,n1,n2]⟩
  simp only[EY,Nat.reduceAdd,jM,decide_eq_false n3,bP]
  have q3:=(fJ (Int.not_lt.1 n3)).2
  exact⟨rfl,by simp only[an.dE,if_false,n1,n2,n3]⟩
theorem L9(β:Bool)(l:List an)(hl:l.length≤maxLen)(ho:∀x∈l,x.ok maxLen)(left:Int)(h0:0≤left)(h1:left≤1048576)(h:AH):T Tryz.prog Γ Fn.VL [.vs β 12 false (l.map (an.c β)),.int .i64 left] h fun v h'=>v=.int .i64 (lv an.dE l left)∧h'=h:=
  yK (f:=Fn.UU) aF mixed (fun hw=>Mw hw) h0 h1 hl (fun x=>⟨rfl,rfl⟩) (fun x left a b c=>(an.cP x left a b c).2) (fun x hx left a b=>Rc β x (ho x hx) left a b h)
theorem TS(β β':Bool)(x y:an)(hx:x.ok 1073741824)(h:AH):T Tryz.prog Γ Fn.QX [.agg (x.c β),.agg (y.c β')] h fun v h'=>v=.bool (decide (x=y))∧h'=h:=by
  refine M5 (au aF mixed [] _ _ _ ?_)
  unfold Ix an.c
  simp only[EY,Nat.reduceAdd,dL,ay,aQ,aZ]
  by_cases n1:x.kind=y.kind
  rotate_left
  · simp only[EY,Nat.reduceAdd,dL,decide_eq_false n1,Bool.not_false]
    exact⟨rfl,by rw[decide_eq_false (fun e=>n1 (by rw[e]))]⟩
  simp only[EY,Nat.reduceAdd,dL,decide_eq_true n1,Bool.not_true,ay,aQ,aZ]
  by_cases n2:x.script=y.script
  rotate_left
  · simp only[EY,Nat.reduceAdd,dL,decide_eq_false n2,Bool.not_false]
    exact⟨rfl,by rw[decide_eq_false (fun e=>n2 (by rw[e]))]⟩
  simp only[EY,Nat.reduceAdd,dL,decide_eq_true n2,Bool.not_true,ay,aQ,aZ]
  refine aq.val (by simp only[EO]) (FT β β' x.slots y.slots (hx.1) _) ?_
  simp only[EY,Nat.reduceAdd,dL,ay,aQ,aZ]
  by_cases n3:x.slots=y.slots
  rotate_left
  · simp only[EY,Nat.reduceAdd,dL,decide_eq_false n3,Bool.not_false]
    exact⟨rfl,by rw[decide_eq_false (fun e=>n3 (by rw[e]))]⟩
  simp only[EY,Nat.reduceAdd,dL,decide_eq_true n3,Bool.not_true,ay,aQ,aZ]
  by_cases n4:x.state=y.state
  rotate_left
  · simp only[EY,Nat.reduceAdd,dL,decide_eq_false n4,Bool.not_false]
    exact⟨rfl,by rw[decide_eq_false (fun e=>n4 (by rw[e]))]⟩
  simp only[EY,Nat.reduceAdd,dL,decide_eq_true n4,Bool.not_true,ay,aQ,aZ]
  refine aq.val (by simp only[EO]) (Ja β β' x.value y.value _) ?_
  simp only[EY,Nat.reduceAdd,dL,ay,aQ,aZ]
  by_cases n5:x.value=y.value
  rotate_left
  · simp only[EY,Nat.reduceAdd,dL,decide_eq_false n5,Bool.not_false]
    exact⟨rfl,by rw[decide_eq_false (fun e=>n5 (by rw[e]))]⟩
  simp only[EY,Nat.reduceAdd,dL,decide_eq_true n5,Bool.not_true,ay,aQ,aZ]
  refine aq.val (by simp only[EO]) (Ia β β' x.queue y.queue (hx.2.1) (hx.2.2.1) _) ?_
  simp only[EY,Nat.reduceAdd,dL,ay,aQ,aZ]
  by_cases n6:x.queue=y.queue
  rotate_left
  · simp only[EY,Nat.reduceAdd,dL,decide_eq_false n6,Bool.not_false]
    exact⟨rfl,by rw[decide_eq_false (fun e=>n6 (by rw[e]))]⟩
  simp only[EY,Nat.reduceAdd,dL,decide_eq_true n6,Bool.not_true,ay,aQ,aZ]
  refine aq.val (by simp only[EO]) (Pp β β' x.askers y.askers (hx.2.2.2) _) ?_
  simp only[EY,Nat.reduceAdd,dL,ay,aQ,aZ]
  by_cases n7:x.askers=y.askers
  rotate_left
  · simp only[EY,Nat.reduceAdd,dL,decide_eq_false n7,Bool.not_false]
    exact⟨rfl,by rw[decide_eq_false (fun e=>n7 (by rw[e]))]⟩
  simp only[EY,Nat.reduceAdd,dL,decide_eq_true n7,Bool.not_true,ay,aQ,aZ]
  by_cases n8:x.peer=y.peer
  rotate_left
  · simp only[EY,Nat.reduceAdd,dL,decide_eq_false n8,Bool.not_false]
    exact⟨rfl,by rw[decide_eq_false (fun e=>n8 (by rw[e]))]⟩
  simp only[EY,Nat.reduceAdd,dL,decide_eq_true n8,Bool.not_true,ay,aQ,aZ]
  by_cases n9:x.pos=y.pos
  rotate_left
  · simp only[EY,Nat.reduceAdd,dL,decide_eq_false n9,Bool.not_false]
    exact⟨rfl,by rw[decide_eq_false (fun e=>n9 (by rw[e]))]⟩
  simp only[EY,Nat.reduceAdd,dL,decide_eq_true n9,Bool.not_true,ay,aQ,aZ]
  by_cases n10:x.count=y.count
  rotate_left
  · simp only[EY,Nat.reduceAdd,dL,decide_eq_false n10,Bool.not_false]
    exact⟨rfl,by rw[decide_eq_false (fun e=>n10 (by rw[e]))]⟩
  simp only[EY,Nat.reduceAdd,dL,decide_eq_true n10,Bool.not_true,ay,aQ,aZ]
  by_cases n11:x.sent=y.sent
  rotate_left
  · simp only[EY,Nat.reduceAdd,dL,decide_eq_false n11,Bool.not_false]
    exact⟨rfl,by rw[decide_eq_false (fun e=>n11 (by rw[e]))]⟩
  simp only[EY,Nat.reduceAdd,dL,decide_eq_true n11,Bool.not_true,ay,aQ,aZ]
  exact⟨rfl,by rw[decide_eq_true (by cases x;cases y;simp only[an.mk.injEq];exact⟨n1,n2,n3,n4,n5,n6,n7,n8,n9,n10,n11⟩)]⟩
theorem Qz(β β':Bool)(l m:List an)(hl:l.length≤1073741824)(ho:∀x∈l,x.ok 1073741824)(h:AH):T Tryz.prog Γ Fn.Xu [.vs β 12 false (l.map (an.c β)),.vs β' 12 false (m.map (an.c β'))] h fun v h'=>v=.bool (decide (l=m))∧h'=h:=
  lZ (f:=Fn.QX) aF mixed (fun hw=>Uv hw) (by omega) (fun x=>⟨rfl,rfl⟩) (fun x=>⟨rfl,rfl⟩) (fun x hx y _=>TS β β' x y (ho x hx) h)
theorem QE(β:Bool)(x:aD)(h:AH):T Tryz.prog Γ Fn.UR [.agg (x.c β)] h fun v h'=>v=.agg (x.c false)∧h'=h:=by
  refine Pa (au aF mixed [] _ _ _ ?_)
  unfold Il aD.c
  simp only[EY,Nat.reduceAdd,ID]
  exact rfl
theorem TG(β:Bool)(l:List aD)(hl:l.length≤1048576)(h:AH):T Tryz.prog Γ Fn.Ww [.vs β 3 false (l.map (aD.c β))] h (bc h [.c (.sl 3 (l.map aD.cd))]):=
  gR (szs:=3) (sz:=3) (bytes:=24) (z:=[.int .i64 0,.int .i64 0,.int .i64 0]) (f:=Fn.UR) aF mixed (fun hw=>Sd hw) (by simp[aX];omega) rfl rfl (fun x _=>⟨rfl,rfl⟩) (fun x _=>rfl) (fun x hx H=>(QE β x H).flat (cs:=x.cd) (by simp[aD.cd,CD.flat]) (by rw[aD.cr]))
theorem MG(β:Bool)(l:List aD)(hl:l.length≤maxLen)(left:Int)(h0:0≤left)(h1:left≤1048576)(h:AH):T Tryz.prog Γ Fn.Wz [.vs β 3 false (l.map (aD.c β)),.int .i64 left] h fun v h'=>v=.int .i64 (lx l left)∧h'=h:=
  vN aF mixed (fun hw=>Mt hw) h0 h1 hl
theorem S4(β β':Bool)(x y:aD)(h:AH):T Tryz.prog Γ Fn.Nl [.agg (x.c β),.agg (y.c β')] h fun v h'=>v=.bool (decide (x=y))∧h'=h:=by
  refine OK (au aF mixed [] _ _ _ ?_)
  unfold FB aD.c
  simp only[EY,Nat.reduceAdd,nN,ay,aQ,aZ]
  by_cases n1:x.pos=y.pos
  rotate_left
  · simp only[EY,Nat.reduceAdd,nN,decide_eq_false n1,Bool.not_false]
    exact⟨rfl,by rw[decide_eq_false (fun e=>n1 (by rw[e]))]⟩
  simp only[EY,Nat.reduceAdd,nN,decide_eq_true n1,Bool.not_true,ay,aQ,aZ]
  by_cases n2:x.entity=y.entity
  rotate_left
  · simp only[EY,Nat.reduceAdd,nN,decide_eq_false n2,Bool.not_false]
    exact⟨rfl,by rw[decide_eq_false (fun e=>n2 (by rw[e]))]⟩
  simp only[EY,Nat.reduceAdd,nN,decide_eq_true n2,Bool.not_true,ay,aQ,aZ]
  by_cases n3:x.count=y.count
  rotate_left
  · simp only[EY,Nat.reduceAdd,nN,decide_eq_false n3,Bool.not_false]
    exact⟨rfl,by rw[decide_eq_false (fun e=>n3 (by rw[e]))]⟩
  simp only[EY,Nat.reduceAdd,nN,decide_eq_true n3,Bool.not_true,ay,aQ,aZ]
  exact⟨rfl,by rw[decide_eq_true (by cases x;cases y;simp only[aD.mk.injEq];exact⟨n1,n2,n3⟩)]⟩
theorem Qj(β β':Bool)(l m:List aD)(hl:l.length≤1073741824)(h:AH):T Tryz.prog Γ Fn.Wq [.vs β 3 false (l.map (aD.c β)),.vs β' 3 false (m.map (aD.c β'))] h fun v h'=>v=.bool (decide (l=m))∧h'=h:=
  lZ (f:=Fn.Nl) aF mixed (fun hw=>Uj hw) (by omega) (fun x=>⟨rfl,rfl⟩) (fun x=>⟨rfl,rfl⟩) (fun x hx y _=>S4 β β' x y h)
theorem SI(β:Bool)(x:ak)(h:AH):T Tryz.prog Γ Fn.Vs [.agg (x.c β)] h fun v h'=>v=.agg (x.c false)∧h'=h:=by
  refine LB (au aF mixed [] _ _ _ ?_)
  unfold G6 ak.c
  simp only[EY,Nat.reduceAdd,GU]
  exact rfl
theorem JE(β:Bool)(l:List ak)(hl:l.length≤1048576)(h:AH):T Tryz.prog Γ Fn.Uz [.vs β 2 false (l.map (ak.c β))] h (bc h [.c (.sl 2 (l.map ak.cd))]):=
  gR (szs:=2) (sz:=2) (bytes:=16) (z:=[.int .i64 0,.int .i64 0]) (f:=Fn.Vs) aF mixed (fun hw=>T0 hw) (by simp[aX];omega) rfl rfl (fun x _=>⟨rfl,rfl⟩) (fun x _=>rfl) (fun x hx H=>(SI β x H).flat (cs:=x.cd) (by simp[ak.cd,CD.flat]) (by rw[ak.cr]))
theorem JS(β:Bool)(l:List ak)(hl:l.length≤maxLen)(left:Int)(h0:0≤left)(h1:left≤1048576)(h:AH):T Tryz.prog Γ Fn.Va [.vs β 2 false (l.map (ak.c β)),.int .i64 left] h fun v h'=>v=.int .i64 (lx l left)∧h'=h:=
  vN aF mixed (fun hw=>O4 hw) h0 h1 hl
theorem Mf(β β':Bool)(x y:ak)(h:AH):T Tryz.prog Γ Fn.RL [.agg (x.c β),.agg (y.c β')] h fun v h'=>v=.bool (decide (x=y))∧h'=h:=by
  refine Sl (au aF mixed [] _ _ _ ?_)
  unfold IM ak.c
  simp only[EY,Nat.reduceAdd,sQ,ay,aQ,aZ]
  by_cases n1:x.id=y.id
  rotate_left
  · simp only[EY,Nat.reduceAdd,sQ,decide_eq_false n1,Bool.not_false]
    exact⟨rfl,by rw[decide_eq_false (fun e=>n1 (by rw[e]))]⟩
  simp only[EY,Nat.reduceAdd,sQ,decide_eq_true n1,Bool.not_true,ay,aQ,aZ]
  by_cases n2:x.promise=y.promise
  rotate_left
  · simp only[EY,Nat.reduceAdd,sQ,decide_eq_false n2,Bool.not_false]
    exact⟨rfl,by rw[decide_eq_false (fun e=>n2 (by rw[e]))]⟩
  simp only[EY,Nat.reduceAdd,sQ,decide_eq_true n2,Bool.not_true,ay,aQ,aZ]
  exact⟨rfl,by rw[decide_eq_true (by cases x;cases y;simp only[ak.mk.injEq];exact⟨n1,n2⟩)]⟩
theorem F4(β β':Bool)(l m:List ak)(hl:l.length≤1073741824)(h:AH):T Tryz.prog Γ Fn.UY [.vs β 2 false (l.map (ak.c β)),.vs β' 2 false (m.map (ak.c β'))] h fun v h'=>v=.bool (decide (l=m))∧h'=h:=
  lZ (f:=Fn.RL) aF mixed (fun hw=>MA hw) (by omega) (fun x=>⟨rfl,rfl⟩) (fun x=>⟨rfl,rfl⟩) (fun x hx y _=>Mf β β' x y h)
theorem Oa(β:Bool)(x:aM)(hx:x.ok 1048576)(h:AH):T Tryz.prog Γ Fn.Vi [.agg (x.c β)] h (bc h [.a x.cd]):=by
  refine T.ez (MB (au aF mixed [] _ _ _ ?_))
  unfold HJ aM.c
  simp only[EY,Nat.reduceAdd,vL]
  refine aq.ref (by simp only[EO]) (TG β x.exports (hx.1) _) ?_
  intro v1 h1 q1
  obtain⟨n1,f1,rfl,o1,nd1,b1⟩:=q1.one
  obtain⟨c1a,c1b,c1c,c1d⟩:=o1.cell
  simp only[EY,Nat.reduceAdd,c1a,c1b,c1c,c1d,vL]
  refine aq.ref (by simp only[EO]) (JE β x.questions (hx.2.1) _) ?_
  intro v2 h2 q2
  obtain⟨n2,f2,rfl,o2,nd2,b2⟩:=q2.one
  obtain⟨c2a,c2b,c2c,c2d⟩:=o2.cell
  simp only[EY,Nat.reduceAdd,c1a,c1b,c1c,c1d,c2a,c2b,c2c,c2d,vL]
  refine aq.ref (by simp only[EO]) (JE β x.answers (hx.2.2) _) ?_
  intro v3 h3 q3
  obtain⟨n3,f3,rfl,o3,nd3,b3⟩:=q3.one
  obtain⟨c3a,c3b,c3c,c3d⟩:=o3.cell
  simp only[EY,Nat.reduceAdd,c1a,c1b,c1c,c1d,c2a,c2b,c2c,c2d,c3a,c3b,c3c,c3d,vL]
  refine⟨by simp only[EO,cR,c1a,c1b,c1c,c1d,c2a,c2b,c2c,c2d,c3a,c3b,c3c,c3d],_,n1++n2++n3,_,rfl,by simp,(.i (.b (.o o1.grow.grow (.i (.o o2.grow (.i (.o o3 .nil))))))),?_,?_⟩
  · simp only[List.append_nil]
    exact bR nd1 (bR nd2 (nd3) (fun b hb=>o2.lt b hb) (fun b hb=>by(try simp only[List.mem_append]at hb);first|(have:=b3 b hb;simp only[List.length_append]at this ⊢;omega))) (fun b hb=>o1.lt b hb) (fun b hb=>by(try simp only[List.mem_append]at hb);rcases hb with hb|hb<;>first|(have:=b2 b hb;simp only[List.length_append]at this ⊢;omega)|(have:=b3 b hb;simp only[List.length_append]at this ⊢;omega))
  · intro b hb
    simp only[List.append_nil,List.mem_append]at hb
    rcases hb with hb|hb|hb<;>first|(have:=b1 b hb;simp only[List.length_append]at this ⊢;omega)|(have:=b2 b hb;simp only[List.length_append]at this ⊢;omega)|(have:=b3 b hb;simp only[List.length_append]at this ⊢;omega)
theorem QB(β:Bool)(l:List aM)(hl:l.length≤1048576)(ho:∀x∈l,x.ok 1048576)(h:AH):T Tryz.prog Γ Fn.Wp [.vs β 7 false (l.map (aM.c β))] h (bc h [.c (.sl 7 (l.map aM.cd))]):=
  gR (szs:=7) (sz:=7) (bytes:=104) (z:=[.int .i64 0,.bool false,.nils,.int .i64 0,.nils,.int .i64 0,.nils]) (f:=Fn.Vi) aF mixed (fun hw=>Ur hw) (by simp[aX];omega) rfl rfl (fun x _=>⟨rfl,rfl⟩) (fun x _=>rfl) (fun x hx H=>Oa β x (ho x hx) H)
theorem LG(β:Bool)(x:aM)(hx:x.ok maxLen)(left:Int)(h0:0≤left)(h1:left≤1048576)(h:AH):T Tryz.prog Γ Fn.U7 [.agg (x.c β),.int .i64 left] h fun v h'=>v=.int .i64 (x.dE left)∧h'=h:=by
  have hml:maxLen≤9223372036854775807:=by decide
  refine OF (au aF mixed [] _ _ _ ?_)
  unfold Fk aM.c
  simp only[EY,Nat.reduceAdd,ka,bP]
  refine aq.val (by simp only[EO]) (MG β x.exports (hx.1) _ (by omega) (by omega) _) ?_
  simp only[EY,Nat.reduceAdd,ka,bP]
  by_cases n1:(lx x.exports left)<0
  · simp only[EY,Nat.reduceAdd,ka,decide_eq_true n1]
    exact⟨rfl,by simp only[aM.dE,n1,if_true,if_false]⟩
  simp only[EY,Nat.reduceAdd,ka,decide_eq_false n1,bP]
  have q1:=(fJ (Int.not_lt.1 n1)).2
  refine aq.val (by simp only[EO]) (JS β x.questions (hx.2.1) _ (by omega) (by omega) _) ?_
  simp only[EY,Nat.reduceAdd,ka,bP]
  by_cases n2:(lx x.questions (lx x.exports left))<0
  · simp only[EY,Nat.reduceAdd,ka,decide_eq_true n2]
    exact⟨rfl,by simp only[aM.dE,n2,if_true,if_false,n1]⟩
  simp only[EY,Nat.reduceAdd,ka,decide_eq_false n2,bP]
  have q2:=(fJ (Int.not_lt.1 n2)).2
  refine aq.val (by simp only[EO]) (JS β x.answers (hx.2.2) _ (by omega) (by omega) _) ?_
  simp only[EY,Nat.reduceAdd,ka,bP]
  by_cases n3:(lx x.answers (lx x.questions (lx x.exports left)))<0
  · simp only[EY,Nat.reduceAdd,ka,decide_eq_true n3]
    exact⟨rfl,by simp only[aM.dE,n3,if_true,if_false,n1,n2]⟩
  simp only[EY,Nat.reduceAdd,ka,decide_eq_false n3,bP]
  have q3:=(fJ (Int.not_lt.1 n3)).2
  exact⟨rfl,by simp only[aM.dE,if_false,n1,n2,n3]⟩
theorem SW(β:Bool)(l:List aM)(hl:l.length≤maxLen)(ho:∀x∈l,x.ok maxLen)(left:Int)(h0:0≤left)(h1:left≤1048576)(h:AH):T Tryz.prog Γ Fn.WO [.vs β 7 false (l.map (aM.c β)),.int .i64 left] h fun v h'=>v=.int .i64 (lv aM.dE l left)∧h'=h:=
  yK (f:=Fn.U7) aF mixed (fun hw=>Ng hw) h0 h1 hl (fun x=>⟨rfl,rfl⟩) (fun x left a b c=>(aM.cP x left a b c).2) (fun x hx left a b=>LG β x (ho x hx) left a b h)
theorem QK(β β':Bool)(x y:aM)(hx:x.ok 1073741824)(h:AH):T Tryz.prog Γ Fn.Uu [.agg (x.c β),.agg (y.c β')] h fun v h'=>v=.bool (decide (x=y))∧h'=h:=by
  refine To (au aF mixed [] _ _ _ ?_)
  unfold Gx aM.c
  simp only[EY,Nat.reduceAdd,fI,ay,aQ,aZ]
  by_cases n1:x.peer=y.peer
  rotate_left
  · simp only[EY,Nat.reduceAdd,fI,decide_eq_false n1,Bool.not_false]
    exact⟨rfl,by rw[decide_eq_false (fun e=>n1 (by rw[e]))]⟩
  simp only[EY,Nat.reduceAdd,fI,decide_eq_true n1,Bool.not_true,ay,aQ,aZ]
  by_cases n2:x.up=y.up
  rotate_left
  · simp only[EY,Nat.reduceAdd,fI,decide_eq_false n2,Bool.not_false]
    exact⟨rfl,by rw[decide_eq_false (fun e=>n2 (by rw[e]))]⟩
  simp only[EY,Nat.reduceAdd,fI,decide_eq_true n2,Bool.not_true,ay,aQ,aZ]
  refine aq.val (by simp only[EO]) (Qj β β' x.exports y.exports (hx.1) _) ?_
  simp only[EY,Nat.reduceAdd,fI,ay,aQ,aZ]
  by_cases n3:x.exports=y.exports
  rotate_left
  · simp only[EY,Nat.reduceAdd,fI,decide_eq_false n3,Bool.not_false]
    exact⟨rfl,by rw[decide_eq_false (fun e=>n3 (by rw[e]))]⟩
  simp only[EY,Nat.reduceAdd,fI,decide_eq_true n3,Bool.not_true,ay,aQ,aZ]
  by_cases n4:x.next=y.next
  rotate_left
  · simp only[EY,Nat.reduceAdd,fI,decide_eq_false n4,Bool.not_false]
    exact⟨rfl,by rw[decide_eq_false (fun e=>n4 (by rw[e]))]⟩
  simp only[EY,Nat.reduceAdd,fI,decide_eq_true n4,Bool.not_true,ay,aQ,aZ]
  refine aq.val (by simp only[EO]) (F4 β β' x.questions y.questions (hx.2.1) _) ?_
  simp only[EY,Nat.reduceAdd,fI,ay,aQ,aZ]
  by_cases n5:x.questions=y.questions
  rotate_left
  · simp only[EY,Nat.reduceAdd,fI,decide_eq_false n5,Bool.not_false]
    exact⟨rfl,by rw[decide_eq_false (fun e=>n5 (by rw[e]))]⟩
  simp only[EY,Nat.reduceAdd,fI,decide_eq_true n5,Bool.not_true,ay,aQ,aZ]
  by_cases n6:x.asked=y.asked
  rotate_left
  · simp only[EY,Nat.reduceAdd,fI,decide_eq_false n6,Bool.not_false]
    exact⟨rfl,by rw[decide_eq_false (fun e=>n6 (by rw[e]))]⟩
  simp only[EY,Nat.reduceAdd,fI,decide_eq_true n6,Bool.not_true,ay,aQ,aZ]
  refine aq.val (by simp only[EO]) (F4 β β' x.answers y.answers (hx.2.2) _) ?_
  simp only[EY,Nat.reduceAdd,fI,ay,aQ,aZ]
  by_cases n7:x.answers=y.answers
  rotate_left
  · simp only[EY,Nat.reduceAdd,fI,decide_eq_false n7,Bool.not_false]
    exact⟨rfl,by rw[decide_eq_false (fun e=>n7 (by rw[e]))]⟩
  simp only[EY,Nat.reduceAdd,fI,decide_eq_true n7,Bool.not_true,ay,aQ,aZ]
  exact⟨rfl,by rw[decide_eq_true (by cases x;cases y;simp only[aM.mk.injEq];exact⟨n1,n2,n3,n4,n5,n6,n7⟩)]⟩
theorem Mc(β β':Bool)(l m:List aM)(hl:l.length≤1073741824)(ho:∀x∈l,x.ok 1073741824)(h:AH):T Tryz.prog Γ Fn.VW [.vs β 7 false (l.map (aM.c β)),.vs β' 7 false (m.map (aM.c β'))] h fun v h'=>v=.bool (decide (l=m))∧h'=h:=
  lZ (f:=Fn.Uu) aF mixed (fun hw=>OW hw) (by omega) (fun x=>⟨rfl,rfl⟩) (fun x=>⟨rfl,rfl⟩) (fun x hx y _=>QK β β' x y (ho x hx) h)
theorem IW(β:Bool)(x:aL)(h:AH):T Tryz.prog Γ Fn.NX [.agg (x.c β)] h fun v h'=>v=.agg (x.c false)∧h'=h:=by
  refine Ue (au aF mixed [] _ _ _ ?_)
  unfold JV aL.c
  simp only[EY,Nat.reduceAdd,Ge]
  exact rfl
theorem SE(β:Bool)(l:List aL)(hl:l.length≤1048576)(h:AH):T Tryz.prog Γ Fn.Wo [.vs β 2 false (l.map (aL.c β))] h (bc h [.c (.sl 2 (l.map aL.cd))]):=
  gR (szs:=2) (sz:=2) (bytes:=16) (z:=[.int .i64 0,.int .i64 0]) (f:=Fn.NX) aF mixed (fun hw=>N5 hw) (by simp[aX];omega) rfl rfl (fun x _=>⟨rfl,rfl⟩) (fun x _=>rfl) (fun x hx H=>(IW β x H).flat (cs:=x.cd) (by simp[aL.cd,CD.flat]) (by rw[aL.cr]))
theorem Oq(β:Bool)(l:List aL)(hl:l.length≤maxLen)(left:Int)(h0:0≤left)(h1:left≤1048576)(h:AH):T Tryz.prog Γ Fn.VD [.vs β 2 false (l.map (aL.c β)),.int .i64 left] h fun v h'=>v=.int .i64 (lx l left)∧h'=h:=
  vN aF mixed (fun hw=>Uf hw) h0 h1 hl
theorem Jn(β β':Bool)(x y:aL)(h:AH):T Tryz.prog Γ Fn.Lf [.agg (x.c β),.agg (y.c β')] h fun v h'=>v=.bool (decide (x=y))∧h'=h:=by
  refine Tw (au aF mixed [] _ _ _ ?_)
  unfold FD aL.c
  simp only[EY,Nat.reduceAdd,rP,ay,aQ,aZ]
  by_cases n1:x.kind=y.kind
  rotate_left
  · simp only[EY,Nat.reduceAdd,rP,decide_eq_false n1,Bool.not_false]
    exact⟨rfl,by rw[decide_eq_false (fun e=>n1 (by rw[e]))]⟩
  simp only[EY,Nat.reduceAdd,rP,decide_eq_true n1,Bool.not_true,ay,aQ,aZ]
  by_cases n2:x.n=y.n
  rotate_left
  · simp only[EY,Nat.reduceAdd,rP,decide_eq_false n2,Bool.not_false]
    exact⟨rfl,by rw[decide_eq_false (fun e=>n2 (by rw[e]))]⟩
  simp only[EY,Nat.reduceAdd,rP,decide_eq_true n2,Bool.not_true,ay,aQ,aZ]
  exact⟨rfl,by rw[decide_eq_true (by cases x;cases y;simp only[aL.mk.injEq];exact⟨n1,n2⟩)]⟩
theorem Og(β β':Bool)(l m:List aL)(hl:l.length≤1073741824)(h:AH):T Tryz.prog Γ Fn.Xg [.vs β 2 false (l.map (aL.c β)),.vs β' 2 false (m.map (aL.c β'))] h fun v h'=>v=.bool (decide (l=m))∧h'=h:=
  lZ (f:=Fn.Lf) aF mixed (fun hw=>Rx hw) (by omega) (fun x=>⟨rfl,rfl⟩) (fun x=>⟨rfl,rfl⟩) (fun x hx y _=>Jn β β' x y h)
theorem R4(β:Bool)(x:aR)(hx:x.ok 1048576)(h:AH):T Tryz.prog Γ Fn.WJ [.agg (x.c β)] h (bc h [.a x.cd]):=by
  refine T.ez (NN (au aF mixed [] _ _ _ ?_))
  unfold Fv aR.c
  simp only[EY,Nat.reduceAdd,vW]
  refine aq.ref (by simp only[EO]) (SE β x.args (hx.2) _) ?_
  intro v1 h1 q1
  obtain⟨n1,f1,rfl,o1,nd1,b1⟩:=q1.one
  obtain⟨c1a,c1b,c1c,c1d⟩:=o1.cell
  simp only[EY,Nat.reduceAdd,c1a,c1b,c1c,c1d,vW]
  refine aq.val (by simp only[EO]) (IW β x.value _) ?_
  simp only[EY,Nat.reduceAdd,aL.c,c1a,c1b,c1c,c1d,vW]
  refine aq.val (by simp only[EO]) (Io β x.tag _) ?_
  simp only[EY,Nat.reduceAdd,fc.c,c1a,c1b,c1c,c1d,vW]
  refine⟨by simp only[EO,cR,c1a,c1b,c1c,c1d],_,n1,_,rfl,by simp,(.i (.i (.i (.i (.s (.o o1 (.i (.i (.i (.i (.i (.i .nil)))))))))))),?_,?_⟩
  · simpa using nd1
  · simpa using b1
theorem PZ(β:Bool)(x:aR)(hx:x.ok maxLen)(left:Int)(h0:0≤left)(h1:left≤1048576)(h:AH):T Tryz.prog Γ Fn.WG [.agg (x.c β),.int .i64 left] h fun v h'=>v=.int .i64 (x.dE left)∧h'=h:=by
  have hml:maxLen≤9223372036854775807:=by decide
  refine S0 (au aF mixed [] _ _ _ ?_)
  unfold FW aR.c
  simp only[EY,Nat.reduceAdd,pP,bP]
  have hs1:x.name.size≤maxLen:=hx.1
  rw[aI (by omega) (by omega)]
  by_cases n1:(left-(x.name.size:Int))<0
  · simp only[EY,Nat.reduceAdd,pP,decide_eq_true n1]
    exact⟨rfl,by simp only[aR.dE,n1,if_true,if_false]⟩
  simp only[EY,Nat.reduceAdd,pP,decide_eq_false n1,bP]
  refine aq.val (by simp only[EO]) (Oq β x.args (hx.2) _ (by omega) (by omega) _) ?_
  simp only[EY,Nat.reduceAdd,pP,bP]
  by_cases n2:(lx x.args (left-(x.name.size:Int)))<0
  · simp only[EY,Nat.reduceAdd,pP,decide_eq_true n2]
    exact⟨rfl,by simp only[aR.dE,n2,if_true,if_false,n1]⟩
  simp only[EY,Nat.reduceAdd,pP,decide_eq_false n2,bP]
  have q2:=(fJ (Int.not_lt.1 n2)).2
  exact⟨rfl,by simp only[aR.dE,if_false,n1,n2]⟩
theorem MZ(β β':Bool)(x y:aR)(hx:x.ok 1073741824)(h:AH):T Tryz.prog Γ Fn.Xb [.agg (x.c β),.agg (y.c β')] h fun v h'=>v=.bool (decide (x=y))∧h'=h:=by
  refine NQ (au aF mixed [] _ _ _ ?_)
  unfold Ga aR.c
  simp only[EY,Nat.reduceAdd,eZ,ay,aQ,aZ]
  by_cases n1:x.kind=y.kind
  rotate_left
  · simp only[EY,Nat.reduceAdd,eZ,decide_eq_false n1,Bool.not_false]
    exact⟨rfl,by rw[decide_eq_false (fun e=>n1 (by rw[e]))]⟩
  simp only[EY,Nat.reduceAdd,eZ,decide_eq_true n1,Bool.not_true,ay,aQ,aZ]
  by_cases n2:x.pos=y.pos
  rotate_left
  · simp only[EY,Nat.reduceAdd,eZ,decide_eq_false n2,Bool.not_false]
    exact⟨rfl,by rw[decide_eq_false (fun e=>n2 (by rw[e]))]⟩
  simp only[EY,Nat.reduceAdd,eZ,decide_eq_true n2,Bool.not_true,ay,aQ,aZ]
  by_cases n3:x.answer=y.answer
  rotate_left
  · simp only[EY,Nat.reduceAdd,eZ,decide_eq_false n3,Bool.not_false]
    exact⟨rfl,by rw[decide_eq_false (fun e=>n3 (by rw[e]))]⟩
  simp only[EY,Nat.reduceAdd,eZ,decide_eq_true n3,Bool.not_true,ay,aQ,aZ]
  by_cases n4:x.question=y.question
  rotate_left
  · simp only[EY,Nat.reduceAdd,eZ,decide_eq_false n4,Bool.not_false]
    exact⟨rfl,by rw[decide_eq_false (fun e=>n4 (by rw[e]))]⟩
  simp only[EY,Nat.reduceAdd,eZ,decide_eq_true n4,Bool.not_true,ay,aQ,aZ]
  by_cases n5:x.name=y.name
  rotate_left
  · simp only[EY,Nat.reduceAdd,eZ,decide_eq_false n5,Bool.not_false]
    exact⟨rfl,by rw[decide_eq_false (fun e=>n5 (by rw[e]))]⟩
  simp only[EY,Nat.reduceAdd,eZ,decide_eq_true n5,Bool.not_true,ay,aQ,aZ]
  refine aq.val (by simp only[EO]) (Og β β' x.args y.args (hx.2) _) ?_
  simp only[EY,Nat.reduceAdd,eZ,ay,aQ,aZ]
  by_cases n6:x.args=y.args
  rotate_left
  · simp only[EY,Nat.reduceAdd,eZ,decide_eq_false n6,Bool.not_false]
    exact⟨rfl,by rw[decide_eq_false (fun e=>n6 (by rw[e]))]⟩
  simp only[EY,Nat.reduceAdd,eZ,decide_eq_true n6,Bool.not_true,ay,aQ,aZ]
  refine aq.val (by simp only[EO]) (Jn β β' x.value y.value _) ?_
  simp only[EY,Nat.reduceAdd,eZ,ay,aQ,aZ]
  by_cases n7:x.value=y.value
  rotate_left
  · simp only[EY,Nat.reduceAdd,eZ,decide_eq_false n7,Bool.not_false]
    exact⟨rfl,by rw[decide_eq_false (fun e=>n7 (by rw[e]))]⟩
  simp only[EY,Nat.reduceAdd,eZ,decide_eq_true n7,Bool.not_true,ay,aQ,aZ]
  by_cases n8:x.count=y.count
  rotate_left
  · simp only[EY,Nat.reduceAdd,eZ,decide_eq_false n8,Bool.not_false]
    exact⟨rfl,by rw[decide_eq_false (fun e=>n8 (by rw[e]))]⟩
  simp only[EY,Nat.reduceAdd,eZ,decide_eq_true n8,Bool.not_true,ay,aQ,aZ]
  refine aq.val (by simp only[EO]) (Hi β β' x.tag y.tag _) ?_
  simp only[EY,Nat.reduceAdd,eZ,ay,aQ,aZ]
  by_cases n9:x.tag=y.tag
  rotate_left
  · simp only[EY,Nat.reduceAdd,eZ,decide_eq_false n9,Bool.not_false]
    exact⟨rfl,by rw[decide_eq_false (fun e=>n9 (by rw[e]))]⟩
  simp only[EY,Nat.reduceAdd,eZ,decide_eq_true n9,Bool.not_true,ay,aQ,aZ]
  exact⟨rfl,by rw[decide_eq_true (by cases x;cases y;simp only[aR.mk.injEq];exact⟨n1,n2,n3,n4,n5,n6,n7,n8,n9⟩)]⟩
theorem Tc(β:Bool)(x:aj)(hx:x.ok 1048576)(h:AH):T Tryz.prog Γ Fn.Vd [.agg (x.c β)] h (bc h [.a x.cd]):=by
  refine T.ez (Tm (au aF mixed [] _ _ _ ?_))
  unfold FF aj.c
  simp only[EY,Nat.reduceAdd,Bg]
  refine aq.ref (by simp only[EO]) (R4 β x.message (hx) _) ?_
  intro v1 h1 q1
  obtain⟨as1,n1,f1,rfl,rfl,o1,nd1,b1⟩:=q1.KQ
  simp only[aR.cd,cT,cO,dU,dT,dM]at o1
  obtain⟨_,_,_,_,rfl,rfl,⟨rfl,rfl⟩,⟨_,_,_,_,rfl,rfl,⟨rfl,rfl⟩,⟨_,_,_,_,rfl,rfl,⟨rfl,rfl⟩,⟨_,_,_,_,rfl,rfl,⟨rfl,rfl⟩,⟨_,_,_,_,rfl,rfl,⟨rfl,rfl⟩,⟨w5,_,e5,_,rfl,rfl,u5,⟨_,_,_,_,rfl,rfl,⟨rfl,rfl⟩,⟨_,_,_,_,rfl,rfl,⟨rfl,rfl⟩,⟨_,_,_,_,rfl,rfl,⟨rfl,rfl⟩,⟨_,_,_,_,rfl,rfl,⟨rfl,rfl⟩,⟨_,_,_,_,rfl,rfl,⟨rfl,rfl⟩,⟨_,_,_,_,rfl,rfl,⟨rfl,rfl⟩,⟨rfl,rfl⟩⟩⟩⟩⟩⟩⟩⟩⟩⟩⟩⟩⟩:=o1
  obtain⟨g5a,g5b,g5c,g5d⟩:=u5.cell
  simp only[EY,Nat.reduceAdd,g5a,g5b,g5c,g5d,Bg]
  exact⟨by simp only[EO,cR,g5a,g5b,g5c,g5d],_,n1,_,rfl,rfl,(.i (.i (.i (.i (.i (.s (.o u5 (.i (.i (.i (.i (.i (.i .nil))))))))))))),by simpa using nd1,by simpa using b1⟩
theorem Rv(β:Bool)(l:List aj)(hl:l.length≤1048576)(ho:∀x∈l,x.ok 1048576)(h:AH):T Tryz.prog Γ Fn.Wf [.vs β 13 false (l.map (aj.c β))] h (bc h [.c (.sl 13 (l.map aj.cd))]):=
  gR (szs:=13) (sz:=13) (bytes:=128) (z:=[.int .i64 0,.int .i64 0,.int .i64 0,.int .i64 0,.int .i64 0,.str ⟨#[]⟩,.nils,.int .i64 0,.int .i64 0,.int .i64 0,.int .i64 0,.int .i64 0,.int .i64 0]) (f:=Fn.Vd) aF mixed (fun hw=>MW hw) (by simp[aX];omega) rfl rfl (fun x _=>⟨rfl,rfl⟩) (fun x _=>rfl) (fun x hx H=>Tc β x (ho x hx) H)
theorem SU(β:Bool)(x:aj)(hx:x.ok maxLen)(left:Int)(h0:0≤left)(h1:left≤1048576)(h:AH):T Tryz.prog Γ Fn.U4 [.agg (x.c β),.int .i64 left] h fun v h'=>v=.int .i64 (x.dE left)∧h'=h:=by
  have hml:maxLen≤9223372036854775807:=by decide
  refine LR (au aF mixed [] _ _ _ ?_)
  unfold I0 aj.c
  simp only[EY,Nat.reduceAdd,vR,bP]
  refine aq.val (by simp only[EO]) (PZ β x.message (hx) _ (by omega) (by omega) _) ?_
  simp only[EY,Nat.reduceAdd,vR,bP]
  by_cases n1:(x.message.dE left)<0
  · simp only[EY,Nat.reduceAdd,vR,decide_eq_true n1]
    exact⟨rfl,by simp only[aj.dE,n1,if_true,if_false]⟩
  simp only[EY,Nat.reduceAdd,vR,decide_eq_false n1,bP]
  have q1:=(aR.cP _ _ (by omega) (by omega) (Int.not_lt.1 n1)).2
  exact⟨rfl,by simp only[aj.dE,if_false,n1]⟩
theorem QY(β:Bool)(l:List aj)(hl:l.length≤maxLen)(ho:∀x∈l,x.ok maxLen)(left:Int)(h0:0≤left)(h1:left≤1048576)(h:AH):T Tryz.prog Γ Fn.WU [.vs β 13 false (l.map (aj.c β)),.int .i64 left] h fun v h'=>v=.int .i64 (lv aj.dE l left)∧h'=h:=
  yK (f:=Fn.U4) aF mixed (fun hw=>M1 hw) h0 h1 hl (fun x=>⟨rfl,rfl⟩) (fun x left a b c=>(aj.cP x left a b c).2) (fun x hx left a b=>SU β x (ho x hx) left a b h)
theorem LN(β β':Bool)(x y:aj)(hx:x.ok 1073741824)(h:AH):T Tryz.prog Γ Fn.Ol [.agg (x.c β),.agg (y.c β')] h fun v h'=>v=.bool (decide (x=y))∧h'=h:=by
  refine Uh (au aF mixed [] _ _ _ ?_)
  unfold JD aj.c
  simp only[EY,Nat.reduceAdd,pU,ay,aQ,aZ]
  by_cases n1:x.to_=y.to_
  rotate_left
  · simp only[EY,Nat.reduceAdd,pU,decide_eq_false n1,Bool.not_false]
    exact⟨rfl,by rw[decide_eq_false (fun e=>n1 (by rw[e]))]⟩
  simp only[EY,Nat.reduceAdd,pU,decide_eq_true n1,Bool.not_true,ay,aQ,aZ]
  refine aq.val (by simp only[EO]) (MZ β β' x.message y.message (hx) _) ?_
  simp only[EY,Nat.reduceAdd,pU,ay,aQ,aZ]
  by_cases n2:x.message=y.message
  rotate_left
  · simp only[EY,Nat.reduceAdd,pU,decide_eq_false n2,Bool.not_false]
    exact⟨rfl,by rw[decide_eq_false (fun e=>n2 (by rw[e]))]⟩
  simp only[EY,Nat.reduceAdd,pU,decide_eq_true n2,Bool.not_true,ay,aQ,aZ]
  exact⟨rfl,by rw[decide_eq_true (by cases x;cases y;simp only[aj.mk.injEq];exact⟨n1,n2⟩)]⟩
theorem P9(β β':Bool)(l m:List aj)(hl:l.length≤1073741824)(ho:∀x∈l,x.ok 1073741824)(h:AH):T Tryz.prog Γ Fn.We [.vs β 13 false (l.map (aj.c β)),.vs β' 13 false (m.map (aj.c β'))] h fun v h'=>v=.bool (decide (l=m))∧h'=h:=
  lZ (f:=Fn.Ol) aF mixed (fun hw=>Un hw) (by omega) (fun x=>⟨rfl,rfl⟩) (fun x=>⟨rfl,rfl⟩) (fun x hx y _=>LN β β' x y (ho x hx) h)
theorem Gp(β:Bool)(x:aS)(hx:x.ok 1048576)(h:AH):T Tryz.prog Γ Fn.GW [.agg (x.c β)] h (bc h [.a x.cd]):=by
  refine T.ez (OZ (au aF mixed [] _ _ _ ?_))
  unfold FC aS.c
  simp only[EY,Nat.reduceAdd,r6]
  refine aq.ref (by simp only[EO]) (Ls β x.entities (hx.1) (hx.2.1) _) ?_
  intro v1 h1 q1
  obtain⟨n1,f1,rfl,o1,nd1,b1⟩:=q1.one
  obtain⟨c1a,c1b,c1c,c1d⟩:=o1.cell
  simp only[EY,Nat.reduceAdd,c1a,c1b,c1c,c1d,r6]
  refine aq.ref (by simp only[EO]) (FA β x.loop (hx.2.2.1) (hx.2.2.2.1) _) ?_
  intro v2 h2 q2
  obtain⟨n2,f2,rfl,o2,nd2,b2⟩:=q2.one
  obtain⟨c2a,c2b,c2c,c2d⟩:=o2.cell
  simp only[EY,Nat.reduceAdd,c1a,c1b,c1c,c1d,c2a,c2b,c2c,c2d,r6]
  refine aq.ref (by simp only[EO]) (QB β x.links (hx.2.2.2.2.1) (hx.2.2.2.2.2.1) _) ?_
  intro v3 h3 q3
  obtain⟨n3,f3,rfl,o3,nd3,b3⟩:=q3.one
  obtain⟨c3a,c3b,c3c,c3d⟩:=o3.cell
  simp only[EY,Nat.reduceAdd,c1a,c1b,c1c,c1d,c2a,c2b,c2c,c2d,c3a,c3b,c3c,c3d,r6]
  refine aq.ref (by simp only[EO]) (Rv β x.out (hx.2.2.2.2.2.2.1) (hx.2.2.2.2.2.2.2) _) ?_
  intro v4 h4 q4
  obtain⟨n4,f4,rfl,o4,nd4,b4⟩:=q4.one
  obtain⟨c4a,c4b,c4c,c4d⟩:=o4.cell
  simp only[EY,Nat.reduceAdd,c1a,c1b,c1c,c1d,c2a,c2b,c2c,c2d,c3a,c3b,c3c,c3d,c4a,c4b,c4c,c4d,r6]
  refine⟨by simp only[EO,cR,c1a,c1b,c1c,c1d,c2a,c2b,c2c,c2d,c3a,c3b,c3c,c3d,c4a,c4b,c4c,c4d],_,n1++n2++n3++n4,_,rfl,by simp,(.i (.o o1.grow.grow.grow (.o o2.grow.grow (.o o3.grow (.o o4 .nil))))),?_,?_⟩
  · simp only[List.append_nil]
    exact bR nd1 (bR nd2 (bR nd3 (nd4) (fun b hb=>o3.lt b hb) (fun b hb=>by(try simp only[List.mem_append]at hb);first|(have:=b4 b hb;simp only[List.length_append]at this ⊢;omega))) (fun b hb=>o2.lt b hb) (fun b hb=>by(try simp only[List.mem_append]at hb);rcases hb with hb|hb<;>first|(have:=b3 b hb;simp only[List.length_append]at this ⊢;omega)|(have:=b4 b hb;simp only[List.length_append]at this ⊢;omega))) (fun b hb=>o1.lt b hb) (fun b hb=>by(try simp only[List.mem_append]at hb);rcases hb with hb|hb|hb<;>first|(have:=b2 b hb;simp only[List.length_append]at this ⊢;omega)|(have:=b3 b hb;simp only[List.length_append]at this ⊢;omega)|(have:=b4 b hb;simp only[List.length_append]at this ⊢;omega))
  · intro b hb
    simp only[List.append_nil,List.mem_append]at hb
    rcases hb with hb|hb|hb|hb<;>first|(have:=b1 b hb;simp only[List.length_append]at this ⊢;omega)|(have:=b2 b hb;simp only[List.length_append]at this ⊢;omega)|(have:=b3 b hb;simp only[List.length_append]at this ⊢;omega)|(have:=b4 b hb;simp only[List.length_append]at this ⊢;omega)
theorem CN(β:Bool)(x:aS)(hx:x.ok 1048576)(h:AH):T Tryz.prog Γ Fn.GW [.agg (x.c β)] h fun v h'=>v=.agg (x.c false)∧h'=h:=by
  have:=(Gp (Γ:=Γ) β x hx h).WZ;rwa[aS.cr]at this
theorem Tj(β:Bool)(x:aS)(hx:x.ok maxLen)(left:Int)(h0:0≤left)(h1:left≤1048576)(h:AH):T Tryz.prog Γ Fn.Xm [.agg (x.c β),.int .i64 left] h fun v h'=>v=.int .i64 (x.dE left)∧h'=h:=by
  have hml:maxLen≤9223372036854775807:=by decide
  refine S7 (au aF mixed [] _ _ _ ?_)
  unfold Gq aS.c
  simp only[EY,Nat.reduceAdd,iE,bP]
  refine aq.val (by simp only[EO]) (L9 β x.entities (hx.1) (hx.2.1) _ (by omega) (by omega) _) ?_
  simp only[EY,Nat.reduceAdd,iE,bP]
  by_cases n1:(lv an.dE x.entities left)<0
  · simp only[EY,Nat.reduceAdd,iE,decide_eq_true n1]
    exact⟨rfl,by simp only[aS.dE,n1,if_true,if_false]⟩
  simp only[EY,Nat.reduceAdd,iE,decide_eq_false n1,bP]
  have q1:=(gF (Q:=an.ok 1048576) (B:=1048576) (fun x left a b c=>an.cP x left a b c) (by omega) (by omega) (Int.not_lt.1 n1)).2
  refine aq.val (by simp only[EO]) (GH β x.loop (hx.2.2.1) (hx.2.2.2.1) _ (by omega) (by omega) _) ?_
  simp only[EY,Nat.reduceAdd,iE,bP]
  by_cases n2:(lv aA.dE x.loop (lv an.dE x.entities left))<0
  · simp only[EY,Nat.reduceAdd,iE,decide_eq_true n2]
    exact⟨rfl,by simp only[aS.dE,n2,if_true,if_false,n1]⟩
  simp only[EY,Nat.reduceAdd,iE,decide_eq_false n2,bP]
  have q2:=(gF (Q:=aA.ok 1048576) (B:=1048576) (fun x left a b c=>aA.cP x left a b c) (by omega) (by omega) (Int.not_lt.1 n2)).2
  refine aq.val (by simp only[EO]) (SW β x.links (hx.2.2.2.2.1) (hx.2.2.2.2.2.1) _ (by omega) (by omega) _) ?_
  simp only[EY,Nat.reduceAdd,iE,bP]
  by_cases n3:(lv aM.dE x.links (lv aA.dE x.loop (lv an.dE x.entities left)))<0
  · simp only[EY,Nat.reduceAdd,iE,decide_eq_true n3]
    exact⟨rfl,by simp only[aS.dE,n3,if_true,if_false,n1,n2]⟩
  simp only[EY,Nat.reduceAdd,iE,decide_eq_false n3,bP]
  have q3:=(gF (Q:=aM.ok 1048576) (B:=1048576) (fun x left a b c=>aM.cP x left a b c) (by omega) (by omega) (Int.not_lt.1 n3)).2
  refine aq.val (by simp only[EO]) (QY β x.out (hx.2.2.2.2.2.2.1) (hx.2.2.2.2.2.2.2) _ (by omega) (by omega) _) ?_
  simp only[EY,Nat.reduceAdd,iE,bP]
  by_cases n4:(lv aj.dE x.out (lv aM.dE x.links (lv aA.dE x.loop (lv an.dE x.entities left))))<0
  · simp only[EY,Nat.reduceAdd,iE,decide_eq_true n4]
    exact⟨rfl,by simp only[aS.dE,n4,if_true,if_false,n1,n2,n3]⟩
  simp only[EY,Nat.reduceAdd,iE,decide_eq_false n4,bP]
  have q4:=(gF (Q:=aj.ok 1048576) (B:=1048576) (fun x left a b c=>aj.cP x left a b c) (by omega) (by omega) (Int.not_lt.1 n4)).2
  exact⟨rfl,by simp only[aS.dE,if_false,n1,n2,n3,n4]⟩
theorem zR(β β':Bool)(x y:aS)(hx:x.ok 1073741824)(h:AH):T Tryz.prog Γ Fn.KH [.agg (x.c β),.agg (y.c β')] h fun v h'=>v=.bool (decide (x=y))∧h'=h:=by
  refine Oi (au aF mixed [] _ _ _ ?_)
  unfold GC aS.c
  simp only[EY,Nat.reduceAdd,gI,ay,aQ,aZ]
  by_cases n1:x.id=y.id
  rotate_left
  · simp only[EY,Nat.reduceAdd,gI,decide_eq_false n1,Bool.not_false]
    exact⟨rfl,by rw[decide_eq_false (fun e=>n1 (by rw[e]))]⟩
  simp only[EY,Nat.reduceAdd,gI,decide_eq_true n1,Bool.not_true,ay,aQ,aZ]
  refine aq.val (by simp only[EO]) (Qz β β' x.entities y.entities (hx.1) (hx.2.1) _) ?_
  simp only[EY,Nat.reduceAdd,gI,ay,aQ,aZ]
  by_cases n2:x.entities=y.entities
  rotate_left
  · simp only[EY,Nat.reduceAdd,gI,decide_eq_false n2,Bool.not_false]
    exact⟨rfl,by rw[decide_eq_false (fun e=>n2 (by rw[e]))]⟩
  simp only[EY,Nat.reduceAdd,gI,decide_eq_true n2,Bool.not_true,ay,aQ,aZ]
  refine aq.val (by simp only[EO]) (Ia β β' x.loop y.loop (hx.2.2.1) (hx.2.2.2.1) _) ?_
  simp only[EY,Nat.reduceAdd,gI,ay,aQ,aZ]
  by_cases n3:x.loop=y.loop
  rotate_left
  · simp only[EY,Nat.reduceAdd,gI,decide_eq_false n3,Bool.not_false]
    exact⟨rfl,by rw[decide_eq_false (fun e=>n3 (by rw[e]))]⟩
  simp only[EY,Nat.reduceAdd,gI,decide_eq_true n3,Bool.not_true,ay,aQ,aZ]
  refine aq.val (by simp only[EO]) (Mc β β' x.links y.links (hx.2.2.2.2.1) (hx.2.2.2.2.2.1) _) ?_
  simp only[EY,Nat.reduceAdd,gI,ay,aQ,aZ]
  by_cases n4:x.links=y.links
  rotate_left
  · simp only[EY,Nat.reduceAdd,gI,decide_eq_false n4,Bool.not_false]
    exact⟨rfl,by rw[decide_eq_false (fun e=>n4 (by rw[e]))]⟩
  simp only[EY,Nat.reduceAdd,gI,decide_eq_true n4,Bool.not_true,ay,aQ,aZ]
  refine aq.val (by simp only[EO]) (P9 β β' x.out y.out (hx.2.2.2.2.2.2.1) (hx.2.2.2.2.2.2.2) _) ?_
  simp only[EY,Nat.reduceAdd,gI,ay,aQ,aZ]
  by_cases n5:x.out=y.out
  rotate_left
  · simp only[EY,Nat.reduceAdd,gI,decide_eq_false n5,Bool.not_false]
    exact⟨rfl,by rw[decide_eq_false (fun e=>n5 (by rw[e]))]⟩
  simp only[EY,Nat.reduceAdd,gI,decide_eq_true n5,Bool.not_true,ay,aQ,aZ]
  exact⟨rfl,by rw[decide_eq_true (by cases x;cases y;simp only[aS.mk.injEq];exact⟨n1,n2,n3,n4,n5⟩)]⟩
end Go.Proofs.YtdlbaonelfcahaaGreatDoor
