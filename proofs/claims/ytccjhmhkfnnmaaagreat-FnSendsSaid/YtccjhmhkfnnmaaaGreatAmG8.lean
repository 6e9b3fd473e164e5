import Derived.Test.YtccjhmhkfnnmaaaGreatAmG7
set_option linter.unusedVariables false
set_option linter.unusedSimpArgs false
namespace Go.AM
structure ae where
  kind:Int
  n:Int
  deriving DecidableEq,Inhabited
def ae.cd(x:ae):List CD:=[.i .i64 x.kind,.i .i64 x.n]
def ae.c(β:Bool)(x:ae):List AV:=[.int .i64 x.kind,.int .i64 x.n]
theorem ae.cu(β:Bool)(x:ae):x.cd.map (CD.av β)=x.c β:=by simp[ae.cd,ae.c,CD.gI,CD.lM,CD.lB,CD.iO,Function.comp_def]
theorem ae.iU(β:Bool)(x:ae):(x.c β).length=2:=rfl
theorem ae.fh(β:Bool)(x:ae):(x.c β).all bj=true:=rfl
theorem ae.dec(x y:ae):(x.kind=y.kind∧x.n=y.n)=(x=y):=by cases x;cases y;simp
structure js where
  vat:Int
  entity:Int
  seq:Int
  deriving DecidableEq,Inhabited
def js.cd(x:js):List CD:=[.i .i64 x.vat,.i .i64 x.entity,.i .i64 x.seq]
def js.c(β:Bool)(x:js):List AV:=[.int .i64 x.vat,.int .i64 x.entity,.int .i64 x.seq]
theorem js.cu(β:Bool)(x:js):x.cd.map (CD.av β)=x.c β:=by simp[js.cd,js.c,CD.gI,CD.lM,CD.lB,CD.iO,Function.comp_def]
theorem js.iU(β:Bool)(x:js):(x.c β).length=3:=rfl
theorem js.fh(β:Bool)(x:js):(x.c β).all bj=true:=rfl
theorem js.dec(x y:js):(x.vat=y.vat∧x.entity=y.entity∧x.seq=y.seq)=(x=y):=by cases x;cases y;simp
structure aM where
  target:Int
  name:ByteArray
  args:List ae
  result:Int
  tag:js
  deriving DecidableEq,Inhabited
def aM.cd(x:aM):List CD:=[.i .i64 x.target,.s x.name,.sl 2 (x.args.map ae.cd),.i .i64 x.result,.i .i64 x.tag.vat,.i .i64 x.tag.entity,.i .i64 x.tag.seq]
def aM.c(β:Bool)(x:aM):List AV:=[.int .i64 x.target,.str x.name,.vs β 2 false (x.args.map (ae.c β)),.int .i64 x.result,.int .i64 x.tag.vat,.int .i64 x.tag.entity,.int .i64 x.tag.seq]
theorem aM.cu(β:Bool)(x:aM):x.cd.map (CD.av β)=x.c β:=by simp[aM.cd,aM.c,CD.gI,CD.lM,CD.lB,CD.iO,Function.comp_def,ae.cu]
theorem aM.iU(β:Bool)(x:aM):(x.c β).length=7:=rfl
theorem aM.fh(β:Bool)(x:aM):(x.c β).all bj=true:=rfl
def aM.ok(N:Nat)(x:aM):Prop:=(x.name.size≤N)∧(x.args.length≤N)
theorem aM.ok.mono{N M:Nat}(hN:N≤M){x:aM}(h:x.ok N):x.ok M:=⟨Nat.le_trans h.1 hN,Nat.le_trans h.2 hN⟩
structure cf where
  peer:Int
  question:Int
  deriving DecidableEq,Inhabited
def cf.cd(x:cf):List CD:=[.i .i64 x.peer,.i .i64 x.question]
def cf.c(β:Bool)(x:cf):List AV:=[.int .i64 x.peer,.int .i64 x.question]
theorem cf.cu(β:Bool)(x:cf):x.cd.map (CD.av β)=x.c β:=by simp[cf.cd,cf.c,CD.gI,CD.lM,CD.lB,CD.iO,Function.comp_def]
theorem cf.iU(β:Bool)(x:cf):(x.c β).length=2:=rfl
theorem cf.fh(β:Bool)(x:cf):(x.c β).all bj=true:=rfl
theorem cf.dec(x y:cf):(x.peer=y.peer∧x.question=y.question)=(x=y):=by cases x;cases y;simp
structure aq where
  kind:Int
  script:Int
  slots:List ae
  state:Int
  value:ae
  queue:List aM
  askers:List cf
  peer:Int
  pos:Int
  count:Int
  sent:Int
  deriving DecidableEq,Inhabited
def aq.cd(x:aq):List CD:=[.i .i64 x.kind,.i .i64 x.script,.sl 2 (x.slots.map ae.cd),.i .i64 x.state,.i .i64 x.value.kind,.i .i64 x.value.n,.sl 7 (x.queue.map aM.cd),.sl 2 (x.askers.map cf.cd),.i .i64 x.peer,.i .i64 x.pos,.i .i64 x.count,.i .i64 x.sent]
def aq.c(β:Bool)(x:aq):List AV:=[.int .i64 x.kind,.int .i64 x.script,.vs β 2 false (x.slots.map (ae.c β)),.int .i64 x.state,.int .i64 x.value.kind,.int .i64 x.value.n,.vs β 7 false (x.queue.map (aM.c β)),.vs β 2 false (x.askers.map (cf.c β)),.int .i64 x.peer,.int .i64 x.pos,.int .i64 x.count,.int .i64 x.sent]
theorem aq.cu(β:Bool)(x:aq):x.cd.map (CD.av β)=x.c β:=by simp[aq.cd,aq.c,CD.gI,CD.lM,CD.lB,CD.iO,Function.comp_def,cf.cu,aM.cu,ae.cu]
theorem aq.iU(β:Bool)(x:aq):(x.c β).length=12:=rfl
theorem aq.fh(β:Bool)(x:aq):(x.c β).all bj=true:=rfl
def aq.ok(N:Nat)(x:aq):Prop:=(x.slots.length≤N)∧(x.queue.length≤N)∧(∀y∈x.queue,y.ok N)∧(x.askers.length≤N)
theorem aq.ok.mono{N M:Nat}(hN:N≤M){x:aq}(h:x.ok N):x.ok M:=⟨Nat.le_trans h.1 hN,Nat.le_trans h.2.1 hN,fun y hy=>(h.2.2.1 y hy).mono hN,Nat.le_trans h.2.2.2 hN⟩
structure aI where
  pos:Int
  entity:Int
  count:Int
  deriving DecidableEq,Inhabited
def aI.cd(x:aI):List CD:=[.i .i64 x.pos,.i .i64 x.entity,.i .i64 x.count]
def aI.c(β:Bool)(x:aI):List AV:=[.int .i64 x.pos,.int .i64 x.entity,.int .i64 x.count]
theorem aI.cu(β:Bool)(x:aI):x.cd.map (CD.av β)=x.c β:=by simp[aI.cd,aI.c,CD.gI,CD.lM,CD.lB,CD.iO,Function.comp_def]
theorem aI.iU(β:Bool)(x:aI):(x.c β).length=3:=rfl
theorem aI.fh(β:Bool)(x:aI):(x.c β).all bj=true:=rfl
theorem aI.dec(x y:aI):(x.pos=y.pos∧x.entity=y.entity∧x.count=y.count)=(x=y):=by cases x;cases y;simp
structure aP where
  id:Int
  promise:Int
  deriving DecidableEq,Inhabited
def aP.cd(x:aP):List CD:=[.i .i64 x.id,.i .i64 x.promise]
def aP.c(β:Bool)(x:aP):List AV:=[.int .i64 x.id,.int .i64 x.promise]
theorem aP.cu(β:Bool)(x:aP):x.cd.map (CD.av β)=x.c β:=by simp[aP.cd,aP.c,CD.gI,CD.lM,CD.lB,CD.iO,Function.comp_def]
theorem aP.iU(β:Bool)(x:aP):(x.c β).length=2:=rfl
theorem aP.fh(β:Bool)(x:aP):(x.c β).all bj=true:=rfl
theorem aP.dec(x y:aP):(x.id=y.id∧x.promise=y.promise)=(x=y):=by cases x;cases y;simp
structure aB where
  peer:Int
  up:Bool
  exports:List aI
  next:Int
  questions:List aP
  asked:Int
  answers:List aP
  deriving DecidableEq,Inhabited
def aB.cd(x:aB):List CD:=[.i .i64 x.peer,.b x.up,.sl 3 (x.exports.map aI.cd),.i .i64 x.next,.sl 2 (x.questions.map aP.cd),.i .i64 x.asked,.sl 2 (x.answers.map aP.cd)]
def aB.c(β:Bool)(x:aB):List AV:=[.int .i64 x.peer,.bool x.up,.vs β 3 false (x.exports.map (aI.c β)),.int .i64 x.next,.vs β 2 false (x.questions.map (aP.c β)),.int .i64 x.asked,.vs β 2 false (x.answers.map (aP.c β))]
theorem aB.cu(β:Bool)(x:aB):x.cd.map (CD.av β)=x.c β:=by simp[aB.cd,aB.c,CD.gI,CD.lM,CD.lB,CD.iO,Function.comp_def,aI.cu,aP.cu]
theorem aB.iU(β:Bool)(x:aB):(x.c β).length=7:=rfl
theorem aB.fh(β:Bool)(x:aB):(x.c β).all bj=true:=rfl
def aB.ok(N:Nat)(x:aB):Prop:=(x.exports.length≤N)∧(x.questions.length≤N)∧(x.answers.length≤N)
theorem aB.ok.mono{N M:Nat}(hN:N≤M){x:aB}(h:x.ok N):x.ok M:=⟨Nat.le_trans h.1 hN,Nat.le_trans h.2.1 hN,Nat.le_trans h.2.2 hN⟩
structure bW where
  kind:Int
  n:Int
  deriving DecidableEq,Inhabited
def bW.cd(x:bW):List CD:=[.i .i64 x.kind,.i .i64 x.n]
def bW.c(β:Bool)(x:bW):List AV:=[.int .i64 x.kind,.int .i64 x.n]
theorem bW.cu(β:Bool)(x:bW):x.cd.map (CD.av β)=x.c β:=by simp[bW.cd,bW.c,CD.gI,CD.lM,CD.lB,CD.iO,Function.comp_def]
theorem bW.iU(β:Bool)(x:bW):(x.c β).length=2:=rfl
theorem bW.fh(β:Bool)(x:bW):(x.c β).all bj=true:=rfl
theorem bW.dec(x y:bW):(x.kind=y.kind∧x.n=y.n)=(x=y):=by cases x;cases y;simp
structure bm where
  kind:Int
  pos:Int
  answer:Int
  question:Int
  name:ByteArray
  args:List bW
  value:bW
  count:Int
  tag:js
  deriving DecidableEq,Inhabited
def bm.cd(x:bm):List CD:=[.i .i64 x.kind,.i .i64 x.pos,.i .i64 x.answer,.i .i64 x.question,.s x.name,.sl 2 (x.args.map bW.cd),.i .i64 x.value.kind,.i .i64 x.value.n,.i .i64 x.count,.i .i64 x.tag.vat,.i .i64 x.tag.entity,.i .i64 x.tag.seq]
def bm.c(β:Bool)(x:bm):List AV:=[.int .i64 x.kind,.int .i64 x.pos,.int .i64 x.answer,.int .i64 x.question,.str x.name,.vs β 2 false (x.args.map (bW.c β)),.int .i64 x.value.kind,.int .i64 x.value.n,.int .i64 x.count,.int .i64 x.tag.vat,.int .i64 x.tag.entity,.int .i64 x.tag.seq]
theorem bm.cu(β:Bool)(x:bm):x.cd.map (CD.av β)=x.c β:=by simp[bm.cd,bm.c,CD.gI,CD.lM,CD.lB,CD.iO,Function.comp_def,bW.cu]
theorem bm.iU(β:Bool)(x:bm):(x.c β).length=12:=rfl
theorem bm.fh(β:Bool)(x:bm):(x.c β).all bj=true:=rfl
def bm.ok(N:Nat)(x:bm):Prop:=(x.name.size≤N)∧(x.args.length≤N)
theorem bm.ok.mono{N M:Nat}(hN:N≤M){x:bm}(h:x.ok N):x.ok M:=⟨Nat.le_trans h.1 hN,Nat.le_trans h.2 hN⟩
structure aJ where
  to_:Int
  message:bm
  deriving DecidableEq,Inhabited
def aJ.cd(x:aJ):List CD:=[.i .i64 x.to_,.i .i64 x.message.kind,.i .i64 x.message.pos,.i .i64 x.message.answer,.i .i64 x.message.question,.s x.message.name,.sl 2 (x.message.args.map bW.cd),.i .i64 x.message.value.kind,.i .i64 x.message.value.n,.i .i64 x.message.count,.i .i64 x.message.tag.vat,.i .i64 x.message.tag.entity,.i .i64 x.message.tag.seq]
def aJ.c(β:Bool)(x:aJ):List AV:=[.int .i64 x.to_,.int .i64 x.message.kind,.int .i64 x.message.pos,.int .i64 x.message.answer,.int .i64 x.message.question,.str x.message.name,.vs β 2 false (x.message.args.map (bW.c β)),.int .i64 x.message.value.kind,.int .i64 x.message.value.n,.int .i64 x.message.count,.int .i64 x.message.tag.vat,.int .i64 x.message.tag.entity,.int .i64 x.message.tag.seq]
theorem aJ.cu(β:Bool)(x:aJ):x.cd.map (CD.av β)=x.c β:=by simp[aJ.cd,aJ.c,CD.gI,CD.lM,CD.lB,CD.iO,Function.comp_def,bW.cu]
theorem aJ.iU(β:Bool)(x:aJ):(x.c β).length=13:=rfl
theorem aJ.fh(β:Bool)(x:aJ):(x.c β).all bj=true:=rfl
def aJ.ok(N:Nat)(x:aJ):Prop:=(x.message.ok N)
theorem aJ.ok.mono{N M:Nat}(hN:N≤M){x:aJ}(h:x.ok N):x.ok M:=bm.ok.mono hN h
structure ar where
  id:Int
  entities:List aq
  loop:List aM
  links:List aB
  out:List aJ
  deriving DecidableEq,Inhabited
def ar.cd(x:ar):List CD:=[.i .i64 x.id,.sl 12 (x.entities.map aq.cd),.sl 7 (x.loop.map aM.cd),.sl 7 (x.links.map aB.cd),.sl 13 (x.out.map aJ.cd)]
def ar.c(β:Bool)(x:ar):List AV:=[.int .i64 x.id,.vs β 12 false (x.entities.map (aq.c β)),.vs β 7 false (x.loop.map (aM.c β)),.vs β 7 false (x.links.map (aB.c β)),.vs β 13 false (x.out.map (aJ.c β))]
theorem ar.cu(β:Bool)(x:ar):x.cd.map (CD.av β)=x.c β:=by simp[ar.cd,ar.c,CD.gI,CD.lM,CD.lB,CD.iO,Function.comp_def,aq.cu,aB.cu,aJ.cu,aM.cu]
theorem ar.iU(β:Bool)(x:ar):(x.c β).length=5:=rfl
theorem ar.fh(β:Bool)(x:ar):(x.c β).all bj=true:=rfl
def ar.ok(N:Nat)(x:ar):Prop:=(x.entities.length≤N)∧(∀y∈x.entities,y.ok N)∧(x.loop.length≤N)∧(∀y∈x.loop,y.ok N)∧(x.links.length≤N)∧(∀y∈x.links,y.ok N)∧(x.out.length≤N)∧(∀y∈x.out,y.ok N)
theorem ar.ok.mono{N M:Nat}(hN:N≤M){x:ar}(h:x.ok N):x.ok M:=⟨Nat.le_trans h.1 hN,fun y hy=>(h.2.1 y hy).mono hN,Nat.le_trans h.2.2.1 hN,fun y hy=>(h.2.2.2.1 y hy).mono hN,Nat.le_trans h.2.2.2.2.1 hN,fun y hy=>(h.2.2.2.2.2.1 y hy).mono hN,Nat.le_trans h.2.2.2.2.2.2.1 hN,fun y hy=>(h.2.2.2.2.2.2.2 y hy).mono hN⟩
end Go.AM
namespace Go.AM
section
variable {P:Program} {Θ:lF} {Γ:bY}
theorem di{α:Type}(β:Bool)(sz:Nat)(ex:Bool)(l:List α)(ce:α→List AV):AF false (.vs β sz ex (l.map ce))=some (.int .i64 l.length):=by simp[AF,rV]
theorem dU{α:Type}{β:Bool}{sz:Nat}{ex:Bool}{l:List α}{ce:α→List AV}{k:Nat}(hk:k<l.length):dV sz (.vs β sz ex (l.map ce)) (k:Int)=some (.ip β (ce l[k])):=by
  simp[dV,hk]
theorem k5{cs:List AV}{n:Nat}(h:cs.length=n):sub cs 0 n=some cs:=by subst h;simp[sub]
theorem b6.cell{h:AH}{a:AV}{d:CD}{fp:List Nat}(o:b6 h a d fp):cellsOf a=some [a]∧Go.AM.bU a=true∧Go.AM.bj a=true∧dY a=true:=by
  cases o<;>exact⟨rfl,rfl,rfl,rfl⟩
theorem aV.one{h h':AH}{d:CD}{v:AV}(f:aV h [.c d] v h'):∃new fp,h'=h++new∧b6 h' v d fp∧fp.Nodup∧∀b∈fp,h.length≤b:=by
  obtain⟨vs,new,fp,rfl,rfl,o,nd,hb,_⟩:=f
  match vs,o with
  | [v],⟨f1,f2,e,o1,o2⟩=>
    have:f2=[]:=o2
    subst this
    simp only[List.append_nil]at e
    subst e
    exact⟨new,_,rfl,o1,nd,hb⟩
theorem aV.SG{h h':AH}{cs:List CD}{v:AV}(f:aV h [.a cs] v h'):∃as new fp,v=.agg as∧h'=h++new∧aG h' as cs fp∧fp.Nodup∧∀b∈fp,h.length≤b:=by
  obtain⟨vs,new,fp,rfl,rfl,o,nd,hb,_⟩:=f
  match vs,o with
  | [v],⟨f1,f2,e,o1,o2⟩=>
    have:f2=[]:=o2
    subst this
    simp only[List.append_nil]at e
    subst e
    obtain⟨as,rfl,o1⟩:=o1
    exact⟨as,new,_,rfl,rfl,o1,nd,hb⟩
theorem T.tq{f:FuncId}{args:List AV}{h:AH}{d:CD}(t:T P Γ f args h fun v h'=>∃new fp,h'=h++new∧b6 h' v d fp∧fp.Nodup∧∀b∈fp,h.length≤b):T P Γ f args h (aV h [.c d]):=
  t.fresh fun v h' ⟨new,fp,e,o,nd,hb⟩=>⟨[v],new,fp,rfl,e,⟨fp,[],by simp,o,rfl⟩,nd,hb⟩
theorem T.iX{f:FuncId}{args:List AV}{h:AH}{cs:List CD}(t:T P Γ f args h fun v h'=>∃as new fp,v=.agg as∧h'=h++new∧aG h' as cs fp∧fp.Nodup∧∀b∈fp,h.length≤b):T P Γ f args h (aV h [.a cs]):=
  t.fresh fun v h' ⟨as,new,fp,e,e',o,nd,hb⟩=>⟨[v],new,fp,rfl,e',⟨fp,[],by simp,⟨as,e,o⟩,rfl⟩,nd,hb⟩
theorem aG.nil{h:AH}:aG h [] [] []:=rfl
theorem aG.i{h:AH}{k:IntKind}{n:Int}{as:List AV}{ds:List CD}{fp:List Nat}(o:aG h as ds fp):aG h (.int k n::as) (.i k n::ds) fp:=⟨[],fp,rfl,.i _ _,o⟩
theorem aG.b{h:AH}{x:Bool}{as:List AV}{ds:List CD}{fp:List Nat}(o:aG h as ds fp):aG h (.bool x::as) (.b x::ds) fp:=⟨[],fp,rfl,.b _,o⟩
theorem aG.s{h:AH}{x:ByteArray}{as:List AV}{ds:List CD}{fp:List Nat}(o:aG h as ds fp):aG h (.str x::as) (.s x::ds) fp:=⟨[],fp,rfl,.s _,o⟩
theorem aG.o{h:AH}{a:AV}{d:CD}{as:List AV}{ds:List CD}{f1 f2:List Nat}(o1:b6 h a d f1)(o:aG h as ds f2):aG h (a::as) (d::ds) (f1++f2):=⟨f1,f2,rfl,o1,o⟩
theorem dO{f1 f2:List Nat}{n:Nat}(h1:f1.Nodup)(h2:f2.Nodup)(l1:∀b∈f1,b<n)(l2:∀b∈f2,n≤b):(f1++f2).Nodup:=by
  rw[List.nodup_append]
  exact⟨h1,h2,fun a ha b hb=>by have:=l1 a ha;have:=l2 b hb;omega⟩
theorem kR{α β:Type}{l:List α}{f:α→List β}{sz:Nat}(h:∀x∈l,(f x).length=sz):((l.map f).flatten).length=l.length*sz:=by
  induction l with
  | nil=>simp
  | cons x l ih=>simp[ih (fun y hy=>h y (by simp[hy])),h x (by simp),Nat.succ_mul,Nat.add_comm]
end
end Go.AM
namespace Go.AM
section
variable {P:Program} {Θ:lF} {Γ:bY}
def CD.flat:CD→Bool|.sl _ _=>false|_=>true
theorem CD.zN{h:AH}{d:CD}(hd:d.flat=true)(β:Bool):b6 h (d.av β) d []:=by
  cases d<;>first|(simp[CD.flat]at hd;done)|(simp only[CD.av];constructor)
theorem kH{h:AH}(β:Bool):∀{cs:List CD},cs.all CD.flat=true→aG h (cs.map (CD.av β)) cs []
  | [],_=>rfl
  | d::r,hc=>by
    simp only[List.all_cons,Bool.and_eq_true]at hc
    exact⟨[],[],rfl,CD.zN hc.1 β,kH β hc.2⟩
theorem T.flat{f:FuncId}{args:List AV}{h:AH}{x:List AV}(t:T P Γ f args h fun v h'=>v=.agg x∧h'=h){cs:List CD}(hc:cs.all CD.flat=true)(hx:x=cs.map (CD.av false)):T P Γ f args h (aV h [.a cs]):=by
  refine T.iX (t.mono ?_)
  rintro v h' ⟨rfl,rfl⟩
  exact⟨_,[],[],rfl,by simp,by rw[hx];exact kH false hc,by simp,by simp⟩
theorem an(a b:Int):(a != b) = !decide (a=b):=by by_cases h:a=b<;>simp[h]
theorem aU(a b:Bool):(a == b)=decide (a=b):=by cases a<;>cases b<;>rfl
theorem Ad(bs:ByteArray):∀(n i:Nat) (r:List UInt8),bs.size-i=n→ByteArray.toList.loop bs i r=r.reverse++bs.data.toList.drop i:=by
  intro n
  induction n with
  | zero=>
    intro i r h
    unfold ByteArray.toList.loop
    have hs:bs.data.toList.length=bs.size:=rfl
    rw[if_neg (by omega),List.drop_of_length_le (by omega),List.append_nil]
  | succ n ih=>
    intro i r h
    have hs:bs.data.toList.length=bs.size:=rfl
    unfold ByteArray.toList.loop
    rw[if_pos (by omega),ih (i+1) _ (by omega),List.drop_eq_getElem_cons (show i<bs.data.toList.length by omega)]
    have hi:i<bs.data.size:=by simpa using(show i<bs.data.toList.length by omega)
    have e:bs.data[i]! = bs.data[i]:=by rw[getElem!_pos bs.data i hi]
    simp[ByteArray.get!,e]
theorem toList_eq(b:ByteArray):b.toList=b.data.toList:=by
  unfold ByteArray.toList
  rw[Ad b _ 0 [] rfl];simp
theorem str_inj{a b:ByteArray}(h:a.toList=b.toList):a=b:=by
  rw[toList_eq,toList_eq]at h
  exact ByteArray.ext (Array.ext' h)
theorem bI(a b:ByteArray):(a.toList == b.toList)=decide (a=b):=by
  by_cases h:a=b
  · subst h;simp
  · rw[decide_eq_false h];simp;exact fun e=>h (str_inj e)
end
end Go.AM
namespace Go.AM
theorem EY:type_of% (And.intro EV (And.intro EL (And.intro EB (And.intro @Bool.false_eq_true (And.intro @if_true.{1} (And.intro @if_false.{1} (@Option.bind_some.{0,0}))))))):=And.intro EV (And.intro EL (And.intro EB (And.intro @Bool.false_eq_true (And.intro @if_true.{1} (And.intro @if_false.{1} (@Option.bind_some.{0,0}))))))
end Go.AM
namespace Go.AM
section
variable {P:Program} {Θ:lF} {Γ:bY}
def gE{α:Type}(p:α→Bool)(l:List α):Int:=match l.findIdx? p with|some i=>(i:Int)|none=>-1
theorem jS{α:Type}(p:α→Bool)(l:List α):(∃(k:Nat) (hk:k<l.length),gE p l=(k:Int)∧p l[k]=true∧l.find? p=some l[k])∨(gE p l = -1∧l.find? p=none∧∀x∈l,p x=false):=by
  unfold gE
  cases h:l.findIdx? p with
  | none=>
    rw[List.findIdx?_eq_none_iff]at h
    exact .inr ⟨rfl,by rw[List.find?_eq_none];intro x hx;simp[h x hx],fun x hx=>h x hx⟩
  | some i=>
    obtain⟨hi,h1,h2⟩:=List.findIdx?_eq_some_iff_getElem.1 h
    refine .inl ⟨i,hi,rfl,h1,?_⟩
    rw[List.find?_eq_some_iff_getElem]
    exact⟨h1,i,hi,rfl,fun j hj=>by simpa using h2 j hj⟩
theorem xG{α:Type}{p:α→Bool}{l:List α}{k:Nat}(hk:k<l.length)(h0:∀(i:Nat) (hi:i<l.length),i<k→p l[i]=false)(h1:p l[k]=true):gE p l=(k:Int):=by
  unfold gE
  rw[List.findIdx?_eq_some_iff_getElem.2 ⟨hk,h1,fun j hj=>by simp[h0 j (by omega) hj]⟩]
theorem rr{α:Type}{p:α→Bool}{l:List α}(h:∀(i:Nat) (hi:i<l.length),p l[i]=false):gE p l = -1:=by
  unfold gE
  rw[List.findIdx?_eq_none_iff.2]
  intro x hx
  obtain⟨i,hi,rfl⟩:=List.mem_iff_getElem.1 hx
  exact h i hi
theorem j6{α:Type}(tab:dS P Θ)(hm:P.follows .mixedOrders=true){f:FuncId}{sz:Nat}{agg:Bool}(hE:Eb P Θ Γ f (sV sz agg) [.t 4] [u,u,u,u,u,u,u,u,u,u,u,u,u,u,u,u,u])
    {β:Bool} {l:List α} {c:α→List AV} (hb:l.length<1099511627776) (hx:∀x,F9 agg sz (c x)∧dY (Qy agg (c x))=true) {g:FuncId} {first caps:List AV} (hc:(first++caps).all dY=true) (p:α→Bool) {h:AH}
    (hp:∀x∈l,T P Γ g (first++([Qy agg (c x)]++caps)) h fun v h'=>v=.bool (p x)∧h'=h):
    T P Γ f [.vs β sz false (l.map c),.fn g first caps] h fun v h'=>v=.int .i64 (gE p l)∧h'=h:=by
  have L0:=di β sz false l c
  generalize e0:AV.vs β sz false (l.map c)=a0 at *
  refine hE (au tab hm [] _ _ _ ?_)
  unfold sV
  simp only[EV,EL,L0]
  refine et tab hm [] (fun k:Nat=>k≤l.length∧∀(i:Nat) (hi:i<l.length),i<k→p l[i]=false) (fun k=>l.length-k)
    (fun k=>⟨[a0,.fn g first caps,.any,.any,.any,.any,.any,.int .i64 l.length,.int .i64 k,.any,.any,.any,.any,.any,.any,.any,.any,.any,.any],[],h⟩) 0 ⟨by omega,fun i hi h=>by omega⟩ ⟨by simp[fY,fO],rfl,rfl⟩ ?_
  rintro k ⟨hk,ht⟩
  simp only[EV,EL]
  refine bP (fun hlt=>?_) (fun hge=>?_)
  · have hlt:k<l.length:=by simpa using hlt
    have i0:=dU (β:=β) (sz:=sz) (ex:=false) (ce:=c) hlt
    rw[e0]at i0
    simp only[EV,EL,i0,yC (hx l[k]).1]
    refine al.val ?_ (hp _ (List.getElem_mem hlt)) ?_
    · simp only[List.all_append,List.all_cons,List.all_nil,Bool.and_true,Bool.and_eq_true]at hc ⊢
      exact⟨hc.1,(hx l[k]).2,hc.2⟩
    simp only[EV,EL]
    refine bP (fun hpt=>?_) (fun hpf=>?_)
    · simp only[EV,EL]
      exact⟨rfl,by rw[xG hlt ht hpt]⟩
    · simp only[EV,EL]
      refine⟨k+1,⟨hlt,fun i hi hik=>?_⟩,by omega,⟨?_,rfl,rfl⟩⟩
      · rcases Nat.lt_or_ge i k with h1|h1
        · exact ht i hi h1
        · have:i=k:=by omega
          subst this;exact hpf
      · rw[wN (by omega)]
        simp[fY,fO]
  · have hge:k=l.length:=by simp at hge;omega
    simp only[EV,EL]
    exact⟨rfl,by rw[rr (fun i hi=>ht i hi (by omega))]⟩
def Br(sz sz':Nat)(z z':List AV):C:=.seq (.reg [⟨(some 6),none,.mov (.c (.bool false))⟩]) (.seq (.seq (.reg [⟨(some 10),none,.mov (.t 0)⟩,
  ⟨(some 11),none,.len false (.t 10)⟩,
  ⟨(some 12),none,.mov (.t 1)⟩,
  ⟨(some 13),none,.len false (.t 12)⟩,
  ⟨(some 14),none,.bin .neq (.num) (.t 11) (.t 13)⟩]) (.cond (.t 14) (.seq (.reg [⟨(some 6),none,.mov (.c (.bool false))⟩]) (.ret)) (.skip))) (.seq (.seq (.reg [⟨(some 15),none,.mov (.t 0)⟩,
  ⟨(some 16),none,.len false (.t 15)⟩,
  ⟨(some 17),none,.mov (.c (.int .i64 0))⟩]) (.block 0 (.loop (.seq (.reg [⟨(some 18),none,.bin .lss (.num) (.t 17) (.t 16)⟩]) (.seq (.cond (.t 18) (.skip) (.exit 0)) (.seq (.block 1 (.seq (.reg [⟨(some 19),none,.mov (.t 17)⟩,
  ⟨(some 20),none,.idxs sz (.t 15) (.t 17)⟩,
  ⟨(some 21),none,.load sz true (.t 20)⟩,
  ⟨(some 8),none,.alloc z⟩,
  ⟨(some 7),none,.mov (.t 19)⟩,
  ⟨none,none,.store sz (.t 8) (.t 21)⟩]) (.seq (.reg [⟨(some 22),none,.mov (.t 1)⟩,
  ⟨(some 23),none,.mov (.t 7)⟩,
  ⟨(some 24),none,.idxs sz' (.t 22) (.t 23)⟩,
  ⟨(some 25),none,.load sz' true (.t 24)⟩,
  ⟨(some 9),none,.alloc z'⟩,
  ⟨none,none,.store sz' (.t 9) (.t 25)⟩]) (.seq (.reg [⟨(some 26),none,.mov (.t 2)⟩,
  ⟨(some 27),none,.load sz true (.t 8)⟩,
  ⟨(some 28),none,.load sz' true (.t 9)⟩,
  ⟨(some 29),none,.call (.t 26) [.t 27,.t 28]⟩,
  ⟨(some 30),none,.un .not (.t 29)⟩]) (.cond (.t 30) (.seq (.reg [⟨(some 6),none,.mov (.c (.bool false))⟩]) (.ret)) (.skip)))))) (.reg [⟨(some 31),none,.bin .add (.num) (.t 17) (.c (.int .i64 1))⟩,
  ⟨(some 17),none,.mov (.t 31)⟩]))))))) (.seq (.reg [⟨(some 6),none,.mov (.c (.bool true))⟩]) (.ret))))
abbrev KC(P:Program)(Θ:lF)(Γ:bY)(f:FuncId)(c:C)(rs:List RS)(us:List AV):Prop:=
  ∀{a0 a1 a2:AV} {h:AH} {K:AV→AH→Prop},TC P Θ Γ c (bk rs K) ⟨a0::a1::a2::us,[],h⟩→T P Γ f [a0,a1,a2] h K
theorem yg:∀{z vs:List AV},z.length=vs.length→vs.all bU=true→lv z 0 vs=some vs
  | [],[],_,_=>rfl
  | a::z,x::vs,h,hc=>by
    simp only[List.all_cons,Bool.and_eq_true]at hc
    simp[lv,hc.1,yg (z:=z) (vs:=vs) (by simpa using h) hc.2]
theorem zM{l:List AV}(h:l.all bj=true):l.all bU=true:=by
  rw[List.all_eq_true]at h ⊢;exact fun x hx=>iB (h x hx)
def mZ{α γ:Type}(p:α→γ→Bool):List α→List γ→Bool
  | [],[]=>true
  | x::xs,y::ys=>p x y && mZ p xs ys
  | _,_=>false
theorem xA{α γ:Type}{p:α→γ→Bool}:∀{xs:List α} {ys:List γ},xs.length≠ys.length→mZ p xs ys=false
  | [],[],h=>absurd rfl h
  | x::xs,y::ys,h=>by simp[mZ,xA (p:=p) (xs:=xs) (ys:=ys) (by simpa using h)]
  | [],_::_,_=>rfl
  | _::_,[],_=>rfl
theorem th{α γ:Type}{p:α→γ→Bool}:∀{xs:List α} {ys:List γ},xs.length=ys.length→(∀(i:Nat) (h1:i<xs.length) (h2:i<ys.length),p xs[i] ys[i]=true)→mZ p xs ys=true
  | [],[],_,_=>rfl
  | x::xs,y::ys,h,hp=>by
    have h0:=hp 0 (by simp) (by simp)
    simp at h0
    simp only[mZ,h0,Bool.true_and]
    exact th (by simpa using h) (fun i h1 h2=>by have:=hp (i+1) (by simpa using h1) (by simpa using h2);rwa[List.getElem_cons_succ,List.getElem_cons_succ]at this)
theorem ru{α γ:Type}{p:α→γ→Bool}:∀{xs:List α} {ys:List γ} (i:Nat) (h1:i<xs.length) (h2:i<ys.length),p xs[i] ys[i]=false→mZ p xs ys=false
  | x::xs,y::ys,0,_,_,h=>by simp at h;simp[mZ,h]
  | x::xs,y::ys,i+1,h1,h2,h=>by simp only[mZ,ru (xs:=xs) (ys:=ys) i (by simpa using h1) (by simpa using h2) (by rwa[List.getElem_cons_succ,List.getElem_cons_succ]at h),Bool.and_false]
theorem eR{α:Type}[DecidableEq α]:∀(xs ys:List α),mZ (fun x y=>decide (x=y)) xs ys=decide (xs=ys)
  | [],[]=>rfl
  | x::xs,y::ys=>by
    simp only[mZ,eR xs ys]
    by_cases h1:x=y<;>by_cases h2:xs=ys<;>simp[h1,h2]
  | [],_::_=>rfl
  | _::_,[]=>rfl
theorem jY{α γ:Type}(tab:dS P Θ)(hm:P.follows .mixedOrders=true){f:FuncId}{sz sz':Nat}{z z':List AV}(hz:z.length=sz)(hz':z'.length=sz')
    (hE:KC P Θ Γ f (Br sz sz' z z') [.t 6] [u,u,u,u,u,u,u,u,u,u,u,u,u,u,u,u,u,u,u,u,u,u,u,u,u,u,u,u,u])
    {β β':Bool} {l:List α} {m:List γ} {c:α→List AV} {c':γ→List AV} (hb:l.length<1099511627776) (hx:∀x,(c x).length=sz∧(c x).all bj=true) (hy:∀x,(c' x).length=sz'∧(c' x).all bj=true)
    {g:FuncId} {first caps:List AV} (hc:(first++caps).all dY=true) (p:α→γ→Bool) {h:AH}
    (hp:∀x∈l,∀y∈m,T P Γ g (first++([.agg (c x),.agg (c' y)]++caps)) h fun v h'=>v=.bool (p x y)∧h'=h):
    T P Γ f [.vs β sz false (l.map c),.vs β' sz' false (m.map c'),.fn g first caps] h fun v h'=>v=.bool (mZ p l m)∧h'=h:=by
  have L0:=di β sz false l c
  have L1:=di β' sz' false m c'
  generalize e0:AV.vs β sz false (l.map c)=a0 at *
  generalize e1:AV.vs β' sz' false (m.map c')=a1 at *
  refine hE (au tab hm [] _ _ _ ?_)
  unfold Br
  simp only[EV,EL,L0,L1]
  refine bP (fun hne=>?_) (fun heq=>?_)
  · simp only[EV,EL]
    refine⟨rfl,?_⟩
    rw[xA (fun e=>by rw[e]at hne;simp at hne)]
  have hl:l.length=m.length:=by simp at heq;omega
  simp only[EV,EL,L0]
  refine et tab hm [] (fun x:Nat×List (List AV)=>x.1≤l.length∧∀(i:Nat) (h1:i<l.length) (h2:i<m.length),i<x.1→p l[i] m[i]=true) (fun x=>l.length-x.1)
    (fun x=>⟨[.any,a1,.fn g first caps,.any,.any,.any,.any,.any,.any,.any,.any,.any,.any,.any,.any,a0,.int .i64 l.length,.int .i64 x.1,.any,.any,.any,.any,.any,.any,.any,.any,.any,.any,.any,.any,.any,.any],x.2,h⟩) (0,[]) ⟨by simp,fun i _ _ h=>by simp at h⟩ ⟨by simp[fY,fO],rfl,rfl⟩ ?_
  rintro⟨k,L⟩ ⟨hk,ht⟩
  simp only at hk ht
  simp only[EV,EL]
  refine bP (fun hlt=>?_) (fun hge=>?_)
  · have hlt:k<l.length:=by simpa using hlt
    have hlt':k<m.length:=by omega
    have i0:=dU (β:=β) (sz:=sz) (ex:=false) (ce:=c) hlt
    have i1:=dU (β:=β') (sz:=sz') (ex:=false) (ce:=c') hlt'
    rw[e0]at i0
    rw[e1]at i1
    have l0:=k5 (hx l[k]).1
    have l1:=k5 (hy m[k]).1
    have s0:=yg (z:=z) (vs:=c l[k]) (by rw[hz,(hx l[k]).1]) (zM (hx l[k]).2)
    have s1:=yg (z:=z') (vs:=c' m[k]) (by rw[hz',(hy m[k]).1]) (zM (hy m[k]).2)
    have n0:∀(s:St) (a:AV),lO s sz a (some (c l[k]))=.CN (s.store a (c l[k])):=fun s a=>PG _ _ _ _ (hx l[k]).1
    have n1:∀(s:St) (a:AV),lO s sz' a (some (c' m[k]))=.CN (s.store a (c' m[k])):=fun s a=>PG _ _ _ _ (hy m[k]).1
    simp only[EV,EL,i0,i1,l0,l1,Option.bind_some,n0,n1,S6,Ta,s0,s1,Ds,SY,Th,Sf,Sc]
    refine al.val ?_ (hp _ (List.getElem_mem hlt) _ (List.getElem_mem hlt')) ?_
    · simp only[List.all_append,List.all_cons,List.all_nil,Bool.and_true,Bool.and_eq_true]at hc ⊢
      exact⟨hc.1,by simpa[dY]using(hx l[k]).2,by simpa[dY]using(hy m[k]).2,hc.2⟩
    simp only[EV,EL]
    cases hq:p l[k] m[k]
    · simp only[EV,EL,Bool.not_false]
      rw[ru k hlt hlt' hq]
      first|exact⟨rfl,rfl⟩|rfl
    · simp only[EV,EL,Bool.not_true]
      refine⟨(k+1,L++[c l[k],c' m[k]]),⟨hlt,fun i g1 g2 hik=>?_⟩,by simp only;omega,⟨?_,rfl,rfl⟩⟩
      · rcases Nat.lt_or_ge i k with g|g
        · exact ht i g1 g2 g
        · have:i=k:=by simp only at hik;omega
          subst this;exact hq
      · rw[wN (by omega)]
        simp[fY,fO]
  · have hge:k=l.length:=by simp at hge;omega
    simp only[EV,EL]
    refine⟨rfl,?_⟩
    rw[th hl (fun i g1 g2=>ht i g1 g2 (by omega))]
def zw(sz:Nat)(agg:Bool)(ek:EK):List O:=[⟨(some 16),none,.mov (.t 0)⟩,
  ⟨(some 17),none,.mov (.t 5)⟩,
  ⟨(some 18),none,.idxs sz (.t 16) (.t 17)⟩,
  ⟨(some 19),none,.load sz agg (.t 18)⟩,
  ⟨(some 20),none,.mov (.t 1)⟩,
  ⟨(some 21),none,.mov (.t 5)⟩,
  ⟨(some 22),none,.idxs sz (.t 20) (.t 21)⟩,
  ⟨(some 23),none,.load sz agg (.t 22)⟩,
  ⟨(some 24),none,.bin .neq ek (.t 19) (.t 23)⟩]
def zA:List (List Nat):=[[],[],[0,1],[2],[],[],[4,5],[6],[3,7]]
theorem CZ(sz:Nat)(agg:Bool)(ek:EK)(gl:Gl)(Q:AE→St→Prop)(s:St):aw P Θ Γ gl (.regD (zw sz agg ek) zA) Q s=dE P Γ gl [⟨(some 16),none,.mov (.t 0)⟩,
  ⟨(some 17),none,.mov (.t 5)⟩,
  ⟨(some 18),none,.idxs sz (.t 16) (.t 17)⟩,
  ⟨(some 19),none,.load sz agg (.t 18)⟩,
  ⟨(some 20),none,.mov (.t 1)⟩,
  ⟨(some 21),none,.mov (.t 5)⟩,
  ⟨(some 22),none,.idxs sz (.t 20) (.t 21)⟩,
  ⟨(some 23),none,.load sz agg (.t 22)⟩,
  ⟨(some 24),none,.bin .neq ek (.t 19) (.t 23)⟩] [⟨(some 16),none,.mov (.t 0)⟩,
  ⟨(some 17),none,.mov (.t 5)⟩,
  ⟨(some 18),none,.idxs sz (.t 16) (.t 17)⟩,
  ⟨(some 19),none,.load sz agg (.t 18)⟩,
  ⟨(some 20),none,.mov (.t 1)⟩,
  ⟨(some 21),none,.mov (.t 5)⟩,
  ⟨(some 22),none,.idxs sz (.t 20) (.t 21)⟩,
  ⟨(some 23),none,.load sz agg (.t 22)⟩,
  ⟨(some 24),none,.bin .neq ek (.t 19) (.t 23)⟩] (Q .normal) s:=ta (by kernel_rfl) gl Q s
def D5(sz:Nat)(agg:Bool)(ek:EK):C:=.seq (.reg [⟨(some 4),none,.mov (.c (.bool false))⟩]) (.seq (.seq (.reg [⟨(some 6),none,.mov (.t 0)⟩,
  ⟨(some 7),none,.len false (.t 6)⟩,
  ⟨(some 8),none,.mov (.t 1)⟩,
  ⟨(some 9),none,.len false (.t 8)⟩,
  ⟨(some 10),none,.bin .neq (.num) (.t 7) (.t 9)⟩]) (.cond (.t 10) (.seq (.reg [⟨(some 4),none,.mov (.c (.bool false))⟩]) (.ret)) (.skip))) (.seq (.seq (.reg [⟨(some 11),none,.mov (.t 0)⟩,
  ⟨(some 12),none,.len false (.t 11)⟩,
  ⟨(some 13),none,.mov (.c (.int .i64 0))⟩]) (.block 0 (.loop (.seq (.reg [⟨(some 14),none,.bin .lss (.num) (.t 13) (.t 12)⟩]) (.seq (.cond (.t 14) (.skip) (.exit 0)) (.seq (.block 1 (.seq (.reg [⟨(some 15),none,.mov (.t 13)⟩,
  ⟨(some 5),none,.mov (.t 15)⟩]) (.seq (.regD (zw sz agg ek) zA) (.cond (.t 24) (.seq (.reg [⟨(some 4),none,.mov (.c (.bool false))⟩]) (.ret)) (.skip))))) (.reg [⟨(some 25),none,.bin .add (.num) (.t 13) (.c (.int .i64 1))⟩,
  ⟨(some 13),none,.mov (.t 25)⟩]))))))) (.seq (.reg [⟨(some 4),none,.mov (.c (.bool true))⟩]) (.ret))))
theorem py{α:Type}[DecidableEq α](tab:dS P Θ)(hm:P.follows .mixedOrders=true){f:FuncId}{sz:Nat}{agg:Bool}{ek:EK}
    (hE:Eb P Θ Γ f (D5 sz agg ek) [.t 4] [u,u,u,u,u,u,u,u,u,u,u,u,u,u,u,u,u,u,u,u,u,u,u,u])
    {β β':Bool} {l m:List α} {c c':α→List AV} (hb:l.length<1099511627776) (hx:∀x,F9 agg sz (c x)) (hy:∀x,F9 agg sz (c' x))
    (he:∀x y,cV .neq ek (Qy agg (c x)) (Qy agg (c' y))=some (.bool !decide (x=y))) {h:AH}:
    T P Γ f [.vs β sz false (l.map c),.vs β' sz false (m.map c')] h fun v h'=>v=.bool (decide (l=m))∧h'=h:=by
  have L0:=di β sz false l c
  have L1:=di β' sz false m c'
  generalize e0:AV.vs β sz false (l.map c)=a0 at *
  generalize e1:AV.vs β' sz false (m.map c')=a1 at *
  refine hE (au tab hm [] _ _ _ ?_)
  unfold D5
  simp only[EV,EL,L0,L1]
  refine bP (fun hne=>?_) (fun heq=>?_)
  · simp only[EV,EL]
    refine⟨rfl,?_⟩
    have hne:l.length≠m.length:=by intro e;rw[e]at hne;simp at hne
    rw[decide_eq_false (fun e=>hne (by rw[e]))]
  have hl:l.length=m.length:=by simp at heq;omega
  simp only[EV,EL,L0]
  refine et tab hm [] (fun k:Nat=>k≤l.length∧∀(i:Nat) (h1:i<l.length) (h2:i<m.length),i<k→l[i]=m[i]) (fun k=>l.length-k)
    (fun k=>⟨[a0,a1,.any,.any,.any,.any,.any,.any,.any,.any,.any,.any,.int .i64 l.length,.int .i64 k,.any,.any,.any,.any,.any,.any,.any,.any,.any,.any,.any,.any],[],h⟩) 0 ⟨by omega,fun i _ _ h=>by omega⟩ ⟨by simp[fY,fO],rfl,rfl⟩ ?_
  rintro k ⟨hk,ht⟩
  simp only[EV,EL]
  refine bP (fun hlt=>?_) (fun hge=>?_)
  · have hlt:k<l.length:=by simpa using hlt
    have hlt':k<m.length:=by omega
    have i0:=dU (β:=β) (sz:=sz) (ex:=false) (ce:=c) hlt
    have i1:=dU (β:=β') (sz:=sz) (ex:=false) (ce:=c') hlt'
    rw[e0]at i0
    rw[e1]at i1
    have hee:=he l[k] m[k]
    simp only[EV,EL,CZ,i0,i1,yC (hx l[k]),yC (hy m[k]),hee]
    by_cases hp:l[k]=m[k]
    · simp only[EV,EL,hp,decide_true,Bool.not_true]
      refine⟨k+1,⟨hlt,fun i g1 g2 hik=>?_⟩,by omega,⟨?_,rfl,rfl⟩⟩
      · rcases Nat.lt_or_ge i k with g|g
        · exact ht i g1 g2 g
        · have:i=k:=by omega
          subst this;exact hp
      · rw[wN (by omega)]
        simp[fY,fO]
    · simp only[EV,EL,decide_eq_false hp,Bool.not_false]
      refine⟨rfl,?_⟩
      rw[decide_eq_false (fun e=>hp (by subst e;rfl))]
  · have hge:k=l.length:=by simp at hge;omega
    simp only[EV,EL]
    refine⟨rfl,?_⟩
    rw[decide_eq_true (List.ext_getElem hl fun i g1 g2=>ht i g1 g2 (by omega))]
def ye(sz bytes:Nat)(z:List AV):C:=.seq (.reg [⟨(some 2),none,.mov (.c (.nils))⟩]) (.seq (.seq (.reg [⟨(some 3),none,.mov (.t 0)⟩,
  ⟨(some 4),none,.bin .eql (.nils) (.t 3) (.c (.nils))⟩]) (.cond (.t 4) (.seq (.reg [⟨(some 2),none,.mov (.c (.nils))⟩]) (.ret)) (.skip))) (.seq (.reg [⟨(some 5),none,.bsl sz 0 z []⟩,
  ⟨(some 6),none,.mov (.t 0)⟩,
  ⟨(some 7),none,.app sz bytes z false (.t 5) (.t 6)⟩,
  ⟨(some 2),none,.mov (.t 7)⟩]) (.ret)))
def CM(s:St)(sz len:Nat):Option (List AV)→AR|some cs=>if cs.all bj then .val (.gs s.heap.length 0 0 len len sz true) (s.push cs)else .stuck|none=>.stuck
theorem BA(gl:Bool)(s:St)(sz len:Nat)(z:List AV)(ps:List (Nat×X)):step Γ gl s (.bsl sz len z ps)=CM s sz len (gM (List.replicate len z).flatten (ps.map fun p=>(p.1*sz,sz,s.eval Γ p.2))):=by
  simp only[step,CM];cases gM _ _<;>rfl
def tS(s:St)(sz bytes:Nat)(x:AV):Option (List AV)→Option Nat→Option Nat→AR
  | some ys,some n,some m=>.CO (ky s sz bytes x ys n m)
  | _,_,_=>.stuck
theorem BM(gl:Bool)(s:St)(sz bytes:Nat)(z:List AV)(str:Bool)(x y:X):step Γ gl s (.app sz bytes z str x y)=tS s sz bytes (s.eval Γ x) (eF s sz str (s.eval Γ y)) (lenOf (s.eval Γ y)) (lenOf (s.eval Γ x)):=by
  simp only[step,tS];rfl
theorem CC{l:List (List AV)}(h:∀x∈l,x.all bj=true):l.flatten.all bj=true:=by
  rw[List.all_flatten,List.all_eq_true];exact h
theorem zu{α:Type}{c:α→List AV}{cd:α→List CD}(h:∀x,c x=(cd x).map (CD.av false))(l:List α):(l.map c).flatten=(l.map cd).flatten.map (CD.av false):=by
  have:c=fun x=>(cd x).map (CD.av false):=funext h
  subst this
  simp[List.map_flatten,Function.comp_def]
theorem pG{α:Type}(tab:dS P Θ)(hm:P.follows .mixedOrders=true){f:FuncId}{sz bytes:Nat}{z:List AV}(hE:KJ P Θ Γ f (ye sz bytes z) [.t 2] [u,u,u,u,u,u,u])
    {β:Bool} {l:List α} {c:α→List AV} {cd:α→List CD} (h0:0<sz) (hb:l.length*(sz+bytes)≤aQ) (hd:∀x,(cd x).length=sz∧(cd x).all CD.flat=true) (hcd:∀x,c x=(cd x).map (CD.av false)) {h:AH}:
    T P Γ f [.vs β sz false (l.map c)] h (aV h [.c (.sl sz (l.map cd))]):=by
  have hcl:∀x,(c x).length=sz:=fun x=>by rw[hcd];simpa using(hd x).1
  have hcn:∀x,(c x).all bj=true:=fun x=>by rw[hcd,List.all_map,List.all_eq_true];intro d _;exact d.bj false
  have hnil:T P Γ f [.nils] h (aV h [.c (.sl sz [])]):=by
    refine T.tq (hE (au tab hm [] _ _ _ ?_))
    unfold ye
    simp only[EV,EL]
    have:cV .eql .nils .nils .nils=some (.bool true):=rfl
    simp only[EV,EL,this]
    exact⟨rfl,[],[],by simp,.nil _,by simp,by simp⟩
  cases l with
  | nil=>
    simp only[List.map_nil]
    refine T.Oq (pre:=[]) (post:=[]) hnil (fun a cp=>?_)
    refine T.tq (hE (au tab hm [] _ _ _ ?_))
    unfold ye
    have e1:cV .eql .nils (.opq (.slice (some a) 0 cp)) .nils=some (.bool false):=rfl
    have app:∀e:List AV,ky ⟨e,[],h++[some (0,[])]⟩ sz bytes (.gs h.length 0 0 0 0 sz true) [] 0 0=some (.gs h.length 0 0 0 0 sz true,⟨e,[],h++[some (0,[])]⟩):=by
      intro e
      unfold ky
      rw[if_neg (by omega),if_neg (by omega)]
      simp[cW,cD]
    simp only[EV,EL,List.nil_append,e1,BA,List.replicate_zero,List.flatten_nil,List.map_nil,gM,CM,List.all_nil,if_true,BM,eF,St.bh,lenOf,tS,app]
    refine⟨rfl,[some (0,[])],[h.length],rfl,?_,by simp,by simp⟩
    exact b6.sl_mk (xs:=[]) (as:=[]) (tail:=[]) (by simp[cW]) (by simp) (by simp) (by simp) rfl
  | cons x l=>
    refine T.tq (hE (au tab hm [] _ _ _ ?_))
    unfold ye
    have e1:cV .eql .nils (.vs β sz false ((x::l).map c)) .nils=some (.bool false):=rfl
    have hfl:((x::l).map c).flatten.length=(x::l).length*sz:=kR (fun y _=>hcl y)
    have hno:((x::l).map c).flatten.all bj=true:=CC (fun y hy=>by obtain⟨w,_,rfl⟩:=List.mem_map.1 hy;exact hcn w)
    have L1:lenOf (.vs β sz false ((x::l).map c))=some (x::l).length:=by simp[lenOf]
    have L2:∀s:St,eF s sz false (.vs β sz false ((x::l).map c))=some ((x::l).map c).flatten:=fun s=>by simp[eF,St.bh]
    have hln:(x::l).length=l.length+1:=rfl
    have hxs:=zu hcd (x::l)
    generalize (x::l).map c=xs at *
    have app:∀e:List AV,ky ⟨e,[],h++[some (0,[])]⟩ sz bytes (.gs h.length 0 0 0 0 sz true) xs.flatten (x::l).length 0=some (.gs h.length 1 0 (x::l).length (x::l).length sz false,⟨e,[],h++[some (1,xs.flatten)]⟩):=by
      intro e
      unfold ky
      rw[if_neg (by omega),if_neg (by rw[Nat.zero_add];omega)]
      simp only[cW,Option.bind_some,if_true,hno]
      rw[if_neg (by omega)]
      simp[sub]
    simp only[EV,EL,e1,BA,List.replicate_zero,List.flatten_nil,List.map_nil,gM,CM,List.all_nil,if_true,BM,L1,L2,show ∀b g off cap:Nat,∀ex,lenOf (.gs b g off 0 cap sz ex)=some 0 from fun _ _ _ _ _=>rfl,tS,app]
    refine⟨rfl,[some (1,xs.flatten)],[h.length],rfl,?_,by simp,by simp⟩
    have:=b6.sl_mk (xs:=(x::l).map cd) (sz:=sz) (as:=xs.flatten) (tail:=[]) (h:=h++[some (1,xs.flatten)]) (b:=h.length) (g:=1) (cap:=(x::l).length) (ex:=false) (fp:=[]) (by rw[List.append_nil];exact cW _ _) (fun m hm=>by obtain⟨y,_,rfl⟩:=List.mem_map.1 hm;exact(hd y).1) (by simp) (by simp)
      (by rw[hxs];exact kH false (by rw[List.all_flatten,List.all_eq_true];intro m hm;obtain⟨y,_,rfl⟩:=List.mem_map.1 hm;exact(hd y).2))
    simpa using this
end
end Go.AM
namespace Go.AM
section
variable {P:Program} {Θ:lF} {Γ:bY}
def A7:List AV→Nat→List AV→Option (List AV)
  | z,0,[]=>some z
  | _::z,0,x::vs=>(A7 z 0 vs).map (x :: ·)
  | a::z,n+1,vs=>(A7 z n vs).map (a :: ·)
  | [],0,_::_=>none
  | [],_+1,_=>none
theorem tW:∀(z:List AV) (o:Nat) (vs z':List AV),A7 z o vs=some z'→o+vs.length≤z.length∧z'=cD z o vs
  | z,0,[],z',h=>by simp[A7]at h;subst h;simp[cD]
  | a::z,0,x::vs,z',h=>by
    simp only[A7,Option.map_eq_some_iff]at h
    obtain⟨y,h1,rfl⟩:=h
    obtain⟨h2,rfl⟩:=tW z 0 vs y h1
    refine⟨by simp at h2 ⊢;omega,?_⟩
    simp[cD]
  | a::z,n+1,vs,z',h=>by
    simp only[A7,Option.map_eq_some_iff]at h
    obtain⟨y,h1,rfl⟩:=h
    obtain⟨h2,rfl⟩:=tW z n vs y h1
    refine⟨by simp;omega,?_⟩
    simp[cD,show n+1+vs.length=(n+vs.length)+1 by omega]
  | [],0,_::_,_,h=>by simp[A7]at h
  | [],_+1,_,_,h=>by simp[A7]at h
theorem Px(z:List AV):A7 z 0 []=some z:=by cases z<;>rfl
theorem LU(a x:AV)(z vs:List AV):A7 (a::z) 0 (x::vs)=(A7 z 0 vs).map (x :: ·):=rfl
theorem L7(a:AV)(z vs:List AV)(n:Nat):A7 (a::z) (n+1) vs=(A7 z n vs).map (a :: ·):=rfl
def S1(f:List AV→Option (List AV))(alt:Option (List AV)):Option (List AV)→Option (List AV)|some z=>f z|none=>alt
def si(z:List AV)(off:Nat)(cs:List AV)(rest:List (Nat×Nat×AV)):Option (List AV):=if off+cs.length≤z.length then gM (cD z off cs) rest else none
def BH(z:List AV)(off size:Nat)(rest:List (Nat×Nat×AV)):Option (List AV)→Option (List AV)
  | some cs=>if cs.length=size then si z off cs rest else none
  | none=>none
theorem qH(z:List AV):gM z []=some z:=rfl
theorem Ow(z:List AV)(off size:Nat)(v:AV)(rest:List (Nat×Nat×AV)):gM z ((off,size,v)::rest)=BH z off size rest (cellsOf v):=by
  simp only[gM,BH,si];cases cellsOf v<;>rfl
theorem Nc(z:List AV)(off size:Nat)(rest:List (Nat×Nat×AV))(cs:List AV):BH z off size rest (some cs)=if cs.length=size then S1 (fun z'=>gM z' rest) (si z off cs rest) (A7 z off cs)else none:=by
  simp only[BH]
  split
  · cases h:A7 z off cs with
    | none=>rfl
    | some z'=>
      obtain⟨h1,h2⟩:=tW _ _ _ _ h
      simp only[si,if_pos h1,S1,h2]
  · rfl
theorem Ho(f:List AV→Option (List AV))(alt:Option (List AV))(z:List AV):S1 f alt (some z)=f z:=rfl
theorem gZ(gl:Bool)(s:St)(z:List AV)(ps:List (Nat×Nat×X)):step Γ gl s (.build z ps)=.iI s ((gM z (ps.map fun p=>(p.1,p.2.1,s.eval Γ p.2.2))).map .agg):=rfl
theorem qO{α β:Type}(f:α→β):List.map f []=[]:=rfl
theorem NT{α β:Type}(f:α→β)(x:α)(xs:List α):List.map f (x::xs)=f x::List.map f xs:=rfl
theorem ah(a b:Int):(a == b)=decide (a=b):=by by_cases h:a=b<;>simp[h]
theorem sw(a b a' b':Int):cV .neq (.agg [.int .i64,.int .i64]) (.agg [.int .i64 a,.int .i64 b]) (.agg [.int .i64 a',.int .i64 b'])=some (.bool !decide (a=a'∧b=b')):=by
  simp[cV,kJ,oV,qK,Bool.decide_and,ah]
theorem pK(a b a' b':Int):cV .eql (.agg [.int .i64,.int .i64]) (.agg [.int .i64 a,.int .i64 b]) (.agg [.int .i64 a',.int .i64 b'])=some (.bool (decide (a=a'∧b=b'))):=by
  simp[cV,kJ,oV,qK,Bool.decide_and,ah]
theorem Bu(a b c a' b' c':Int):cV .neq (.agg [.int .i64,.int .i64,.int .i64]) (.agg [.int .i64 a,.int .i64 b,.int .i64 c]) (.agg [.int .i64 a',.int .i64 b',.int .i64 c'])=some (.bool !decide (a=a'∧b=b'∧c=c')):=by
  simp[cV,kJ,oV,qK,Bool.decide_and,ah]
theorem Bs(a b c a' b' c':Int):cV .eql (.agg [.int .i64,.int .i64,.int .i64]) (.agg [.int .i64 a,.int .i64 b,.int .i64 c]) (.agg [.int .i64 a',.int .i64 b',.int .i64 c'])=some (.bool (decide (a=a'∧b=b'∧c=c'))):=by
  simp[cV,kJ,oV,qK,Bool.decide_and,ah]
theorem sC{α:Type}{l:List α}{P:α→Prop}{k:Nat}{hk:k<l.length}(h:∀(i:Nat) (hi:i<l.length),i<k→P l[i])(hp:P l[k]):∀(i:Nat) (hi:i<l.length),i<k+1→P l[i]:=by
  intro i hi hik
  rcases Nat.lt_or_ge i k with g|g
  · exact h i hi g
  · have:i=k:=by omega
    subst this;exact hp
def CE(p:AV)(off:Nat):AV:=match p with|.gp b g o=>.gp b g (o+off)|.ip β cs=>.ip β (cs.drop off)|x=>x
structure Ptr (H:AH) (p:AV) (cs:List AV):Prop where
  nil:isNil p=some false
  out:dY p=true
  n1:g9 p=true
  fld:∀off,kA off p=some (CE p off)
  rd:∀(e:List AV) (l:List (List AV)) (off n:Nat),off+(n+1)≤cs.length→(St.mk e l H).cells (CE p off) (n+1)=sub cs off (n+1)
  rd0:∀(e:List AV) (l:List (List AV)) (n:Nat),n+1≤cs.length→(St.mk e l H).cells p (n+1)=sub cs 0 (n+1)
theorem Ptr.ip(H:AH)(β:Bool)(cs:List AV):Ptr H (.ip β cs) cs:=by
  refine⟨rfl,rfl,rfl,fun _=>rfl,fun e l off n hn=>?_,fun e l n hn=>rfl⟩
  simp only[CE,St.cells,sub,Nat.zero_add,List.length_drop,List.drop_zero]
  rw[if_pos (by omega),if_pos hn]
theorem Ptr.gp{H:AH}{b g o:Nat}{cells cs:List AV}(h:b7 H b=some (g,cells))(hc:∀n,n≤cs.length→∀off,off+n≤cs.length→sub cells (o+off) n=sub cs off n):Ptr H (.gp b g o) cs:=by
  refine⟨rfl,rfl,rfl,fun _=>rfl,fun e l off n hn=>?_,fun e l n hn=>?_⟩
  · simp only[CE,St.cells,h,Option.bind_some,if_true];exact hc _ (by omega) off hn
  · simp only[St.cells,h,Option.bind_some,if_true];simpa using hc _ hn 0 (by omega)
theorem Ptr.Sr{H:AH}{b g:Nat}{cs:List AV}(h:b7 H b=some (g,cs)):Ptr H (.gp b g 0) cs:=Ptr.gp h (fun n _ off _=>by rw[Nat.zero_add])
inductive Wk:AV→AV→Prop
  | rfl (x:AV):Wk x x
  | any (x:AV):Wk x .any
  | nil (β:Bool) (sz:Nat) (ex:Bool):Wk .nils (.vs β sz ex [])
  | agg (xs ys:List AV) (h1:xs.length=ys.length) (h:∀(i:Nat) (x y:AV),xs[i]? = some x→ys[i]? = some y→Wk x y):Wk (.agg xs) (.agg ys)
def CQ:List AV→List AV→Prop
  | [],[]=>True
  | x::xs,y::ys=>Wk x y∧CQ xs ys
  | _,_=>False
theorem CQ.spec:∀{xs ys:List AV},CQ xs ys→xs.length=ys.length∧∀(i:Nat) (x y:AV),xs[i]? = some x→ys[i]? = some y→Wk x y
  | [],[],_=>⟨Eq.refl _,fun i x y h=>by simp at h⟩
  | x::xs,y::ys,h=>by
    obtain⟨h1,h2⟩:=CQ.spec h.2
    refine⟨by simp[h1],fun i a b ha hb=>?_⟩
    cases i with
    | zero=>simp at ha hb;subst ha hb;exact h.1
    | succ i=>exact h2 i a b (by simpa using ha) (by simpa using hb)
  | [],_::_,h=>h.elim
  | _::_,[],h=>h.elim
theorem CQ.refl:∀(xs:List AV),CQ xs xs|[]=>trivial|x::xs=>⟨.rfl x,CQ.refl xs⟩
theorem Wk.RV{x y:AV}(h:Wk x y){ρ:fI}{ls:List Nat}:∀{v:Value},RV ρ ls x v→RV ρ ls y v:=by
  induction h with
  | rfl=>exact fun r=>r
  | any=>exact fun _=>.any _ _
  | nil β sz ex=>intro v r;cases r;exact .vsn _ _ _ _
  | agg xs ys h1 h ih=>
    intro v r
    cases r with
    | agg _ _ vs k1 kr=>
      refine .agg _ _ _ (by omega) (fun i y hy=>?_)
      have hlt:=ay hy
      exact ih i _ y (List.getElem?_eq_getElem (by omega)) hy (kr i _ (List.getElem?_eq_getElem (by omega)))
theorem CQ.gy{xs ys:List AV}(h:CQ xs ys){ρ:fI}{ls:List Nat}{vs:List Value}(r:gy ρ ls xs vs):gy ρ ls ys vs:=by
  obtain⟨h1,h2⟩:=h.spec
  refine⟨by rw[←h1];exact r.1,fun i y hy=>?_⟩
  have hlt:=ay hy
  exact(h2 i _ y (List.getElem?_eq_getElem (by omega)) hy).RV (r.2 i _ (List.getElem?_eq_getElem (by omega)))
theorem al.zr{f:FuncId}{args args':List AV}{s:St}{K:AV→St→Prop}(h:CQ args args')(t:al P Γ f args' s K):al P Γ f args s K:=
  fun ρ ls w cargs m g ra=>t ρ ls w cargs m g (h.gy ra)
theorem T.zr{f:FuncId}{args args':List AV}{h:AH}{Q:AV→AH→Prop}(hw:CQ args args')(t:T P Γ f args' h Q):T P Γ f args h Q:=
  ⟨t.1,fun ρ w cargs m g ra=>t.2 ρ w cargs m g (hw.gy ra)⟩
def KH(s:St)(v:AV):Option Bool→AR|some false=>.val v s|_=>.stuck
theorem zq(gl:Bool)(s:St)(x:X):step Γ gl s (.nilchk x)=KH s (s.eval Γ x) (isNil (s.eval Γ x)):=by
  simp only[step,KH];split<;>simp_all
theorem II(s:St)(v:AV):KH s v (some false)=.val v s:=rfl
theorem Ai(β:Bool)(cs:List AV):isNil (.ip β cs)=some false:=rfl
theorem zi(b g o:Nat):isNil (.gp b g o)=some false:=rfl
theorem zH(i o:Nat):isNil (.lp i o)=some false:=rfl
theorem GK:cV .eql .nilp .nilp .nilp=some (.bool true):=rfl
theorem I8(β:Bool)(cs:List AV):cV .eql .nilp (.ip β cs) .nilp=some (.bool false):=rfl
theorem JU(b g o:Nat):cV .eql .nilp (.gp b g o) .nilp=some (.bool false):=rfl
theorem HP:cV .neq .nilp .nilp .nilp=some (.bool false):=rfl
theorem Hw(β:Bool)(cs:List AV):cV .neq .nilp (.ip β cs) .nilp=some (.bool true):=rfl
theorem Hv(b g o:Nat):cV .neq .nilp (.gp b g o) .nilp=some (.bool true):=rfl
theorem I9(β:Bool)(cs:List AV):cellsOf (.ip β cs)=some [.ip β cs]:=rfl
theorem J9(b g o:Nat):cellsOf (.gp b g o)=some [.gp b g o]:=rfl
theorem Iv(β:Bool)(sz:Nat)(ex:Bool)(xs:List (List AV)):bU (.vs β sz ex xs)=true:=rfl
theorem Ix(β:Bool)(cs:List AV):bU (.ip β cs)=true:=rfl
theorem Kf(b g o:Nat):bU (.gp b g o)=true:=rfl
theorem Kz:bU .nilp=true:=rfl
theorem Jz:bU .nils=true:=rfl
end
theorem EF:type_of% (And.intro @Px (And.intro @LU (And.intro @L7 (And.intro @qH (And.intro @Ow (And.intro @Nc (And.intro @Ho (And.intro @gZ (And.intro @qO (And.intro @NT (And.intro @BA (((((And.intro @zq (And.intro @II (And.intro @Ai (And.intro @zi (And.intro @zH (And.intro @GK (And.intro @I8 (And.intro @JU (And.intro @HP (And.intro @Hw (And.intro @Hv (And.intro @I9 (And.intro @J9 (And.intro @Iv (And.intro @Ix (And.intro @Kf (And.intro @Kz (@Jz))))))))))))))))))))))))))))))))):=And.intro @Px (And.intro @LU (And.intro @L7 (And.intro @qH (And.intro @Ow (And.intro @Nc (And.intro @Ho (And.intro @gZ (And.intro @qO (And.intro @NT (And.intro @BA (((((And.intro @zq (And.intro @II (And.intro @Ai (And.intro @zi (And.intro @zH (And.intro @GK (And.intro @I8 (And.intro @JU (And.intro @HP (And.intro @Hw (And.intro @Hv (And.intro @I9 (And.intro @J9 (And.intro @Iv (And.intro @Ix (And.intro @Kf (And.intro @Kz (@Jz))))))))))))))))))))))))))))))))
theorem EZ:type_of% (And.intro EV (And.intro EL (And.intro EB (And.intro EF (And.intro @Bool.false_eq_true (And.intro @Bool.not_true (And.intro @Bool.not_false (And.intro @if_true.{1} (And.intro @if_false.{1} (@Option.bind_some.{0,0})))))))))):=And.intro EV (And.intro EL (And.intro EB (And.intro EF (And.intro @Bool.false_eq_true (And.intro @Bool.not_true (And.intro @Bool.not_false (And.intro @if_true.{1} (And.intro @if_false.{1} (@Option.bind_some.{0,0})))))))))
end Go.AM
namespace Go.AM
theorem TH(e:List AV)(L zs:List (List AV))(a b d e z:List AV)(h:AH)(off n0:Nat):(St.mk e (L++a::b::d::e::z::zs) h).cells (.lp (L.length+4) off) n0=sub z off n0:=cM (i:=4) rfl
theorem Tx(e:List AV)(L zs:List (List AV))(a b d e z:List AV)(h:AH)(off:Nat)(vs:List AV):(St.mk e (L++a::b::d::e::z::zs) h).store (.lp (L.length+4) off) vs=jr (fun z'=>⟨e,L++a::b::d::e::z'::zs,h⟩) (gF ⟨e,L++a::b::d::e::z::zs,h⟩ (.lp (L.length+4) off) vs) (lv z off vs):=
  dN fun _ hs=>cL (i:=4) rfl hs
theorem T4(L:List (List AV))(a b d e:List AV):(L++[a,b,d,e]).length=L.length+4:=by simp
theorem Uc(L:List (List AV))(a b d e z:List AV):(L++[a,b,d,e])++[z]=L++[a,b,d,e,z]:=by simp
theorem TD(e:List AV)(L zs:List (List AV))(a b d e f z:List AV)(h:AH)(off n0:Nat):(St.mk e (L++a::b::d::e::f::z::zs) h).cells (.lp (L.length+5) off) n0=sub z off n0:=cM (i:=5) rfl
theorem TS(e:List AV)(L zs:List (List AV))(a b d e f z:List AV)(h:AH)(off:Nat)(vs:List AV):(St.mk e (L++a::b::d::e::f::z::zs) h).store (.lp (L.length+5) off) vs=jr (fun z'=>⟨e,L++a::b::d::e::f::z'::zs,h⟩) (gF ⟨e,L++a::b::d::e::f::z::zs,h⟩ (.lp (L.length+5) off) vs) (lv z off vs):=
  dN fun _ hs=>cL (i:=5) rfl hs
theorem Ug(L:List (List AV))(a b d e f:List AV):(L++[a,b,d,e,f]).length=L.length+5:=by simp
theorem Tp(L:List (List AV))(a b d e f z:List AV):(L++[a,b,d,e,f])++[z]=L++[a,b,d,e,f,z]:=by simp
theorem Tt(e:List AV)(L zs:List (List AV))(a b d e f g z:List AV)(h:AH)(off n0:Nat):(St.mk e (L++a::b::d::e::f::g::z::zs) h).cells (.lp (L.length+6) off) n0=sub z off n0:=cM (i:=6) rfl
theorem TA(e:List AV)(L zs:List (List AV))(a b d e f g z:List AV)(h:AH)(off:Nat)(vs:List AV):(St.mk e (L++a::b::d::e::f::g::z::zs) h).store (.lp (L.length+6) off) vs=jr (fun z'=>⟨e,L++a::b::d::e::f::g::z'::zs,h⟩) (gF ⟨e,L++a::b::d::e::f::g::z::zs,h⟩ (.lp (L.length+6) off) vs) (lv z off vs):=
  dN fun _ hs=>cL (i:=6) rfl hs
theorem Ts(L:List (List AV))(a b d e f g:List AV):(L++[a,b,d,e,f,g]).length=L.length+6:=by simp
theorem Tr(L:List (List AV))(a b d e f g z:List AV):(L++[a,b,d,e,f,g])++[z]=L++[a,b,d,e,f,g,z]:=by simp
theorem TX(e:List AV)(L zs:List (List AV))(a b d e f g i z:List AV)(h:AH)(off n0:Nat):(St.mk e (L++a::b::d::e::f::g::i::z::zs) h).cells (.lp (L.length+7) off) n0=sub z off n0:=cM (i:=7) rfl
theorem T3(e:List AV)(L zs:List (List AV))(a b d e f g i z:List AV)(h:AH)(off:Nat)(vs:List AV):(St.mk e (L++a::b::d::e::f::g::i::z::zs) h).store (.lp (L.length+7) off) vs=jr (fun z'=>⟨e,L++a::b::d::e::f::g::i::z'::zs,h⟩) (gF ⟨e,L++a::b::d::e::f::g::i::z::zs,h⟩ (.lp (L.length+7) off) vs) (lv z off vs):=
  dN fun _ hs=>cL (i:=7) rfl hs
theorem T0(L:List (List AV))(a b d e f g i:List AV):(L++[a,b,d,e,f,g,i]).length=L.length+7:=by simp
theorem Uq(L:List (List AV))(a b d e f g i z:List AV):(L++[a,b,d,e,f,g,i])++[z]=L++[a,b,d,e,f,g,i,z]:=by simp
theorem Ua(e:List AV)(L zs:List (List AV))(a b d e f g i j z:List AV)(h:AH)(off n0:Nat):(St.mk e (L++a::b::d::e::f::g::i::j::z::zs) h).cells (.lp (L.length+8) off) n0=sub z off n0:=cM (i:=8) rfl
theorem TN(e:List AV)(L zs:List (List AV))(a b d e f g i j z:List AV)(h:AH)(off:Nat)(vs:List AV):(St.mk e (L++a::b::d::e::f::g::i::j::z::zs) h).store (.lp (L.length+8) off) vs=jr (fun z'=>⟨e,L++a::b::d::e::f::g::i::j::z'::zs,h⟩) (gF ⟨e,L++a::b::d::e::f::g::i::j::z::zs,h⟩ (.lp (L.length+8) off) vs) (lv z off vs):=
  dN fun _ hs=>cL (i:=8) rfl hs
theorem Tn(L:List (List AV))(a b d e f g i j:List AV):(L++[a,b,d,e,f,g,i,j]).length=L.length+8:=by simp
theorem TT(L:List (List AV))(a b d e f g i j z:List AV):(L++[a,b,d,e,f,g,i,j])++[z]=L++[a,b,d,e,f,g,i,j,z]:=by simp
theorem TG(e:List AV)(L zs:List (List AV))(a b d e f g i j k z:List AV)(h:AH)(off n0:Nat):(St.mk e (L++a::b::d::e::f::g::i::j::k::z::zs) h).cells (.lp (L.length+9) off) n0=sub z off n0:=cM (i:=9) rfl
theorem Ud(e:List AV)(L zs:List (List AV))(a b d e f g i j k z:List AV)(h:AH)(off:Nat)(vs:List AV):(St.mk e (L++a::b::d::e::f::g::i::j::k::z::zs) h).store (.lp (L.length+9) off) vs=jr (fun z'=>⟨e,L++a::b::d::e::f::g::i::j::k::z'::zs,h⟩) (gF ⟨e,L++a::b::d::e::f::g::i::j::k::z::zs,h⟩ (.lp (L.length+9) off) vs) (lv z off vs):=
  dN fun _ hs=>cL (i:=9) rfl hs
theorem Ue(L:List (List AV))(a b d e f g i j k:List AV):(L++[a,b,d,e,f,g,i,j,k]).length=L.length+9:=by simp
theorem TJ(L:List (List AV))(a b d e f g i j k z:List AV):(L++[a,b,d,e,f,g,i,j,k])++[z]=L++[a,b,d,e,f,g,i,j,k,z]:=by simp
theorem OR(e:List AV)(L zs:List (List AV))(a b d e f g i j k m z:List AV)(h:AH)(off n0:Nat):(St.mk e (L++a::b::d::e::f::g::i::j::k::m::z::zs) h).cells (.lp (L.length+10) off) n0=sub z off n0:=cM (i:=10) rfl
theorem P1(e:List AV)(L zs:List (List AV))(a b d e f g i j k m z:List AV)(h:AH)(off:Nat)(vs:List AV):(St.mk e (L++a::b::d::e::f::g::i::j::k::m::z::zs) h).store (.lp (L.length+10) off) vs=jr (fun z'=>⟨e,L++a::b::d::e::f::g::i::j::k::m::z'::zs,h⟩) (gF ⟨e,L++a::b::d::e::f::g::i::j::k::m::z::zs,h⟩ (.lp (L.length+10) off) vs) (lv z off vs):=
  dN fun _ hs=>cL (i:=10) rfl hs
theorem Nr(L:List (List AV))(a b d e f g i j k m:List AV):(L++[a,b,d,e,f,g,i,j,k,m]).length=L.length+10:=by simp
theorem QR(L:List (List AV))(a b d e f g i j k m z:List AV):(L++[a,b,d,e,f,g,i,j,k,m])++[z]=L++[a,b,d,e,f,g,i,j,k,m,z]:=by simp
theorem Nw(e:List AV)(L zs:List (List AV))(a b d e f g i j k m n z:List AV)(h:AH)(off n0:Nat):(St.mk e (L++a::b::d::e::f::g::i::j::k::m::n::z::zs) h).cells (.lp (L.length+11) off) n0=sub z off n0:=cM (i:=11) rfl
theorem OS(e:List AV)(L zs:List (List AV))(a b d e f g i j k m n z:List AV)(h:AH)(off:Nat)(vs:List AV):(St.mk e (L++a::b::d::e::f::g::i::j::k::m::n::z::zs) h).store (.lp (L.length+11) off) vs=jr (fun z'=>⟨e,L++a::b::d::e::f::g::i::j::k::m::n::z'::zs,h⟩) (gF ⟨e,L++a::b::d::e::f::g::i::j::k::m::n::z::zs,h⟩ (.lp (L.length+11) off) vs) (lv z off vs):=
  dN fun _ hs=>cL (i:=11) rfl hs
theorem Rw(L:List (List AV))(a b d e f g i j k m n:List AV):(L++[a,b,d,e,f,g,i,j,k,m,n]).length=L.length+11:=by simp
theorem N8(L:List (List AV))(a b d e f g i j k m n z:List AV):(L++[a,b,d,e,f,g,i,j,k,m,n])++[z]=L++[a,b,d,e,f,g,i,j,k,m,n,z]:=by simp
theorem Rm(e:List AV)(L zs:List (List AV))(a b d e f g i j k m n o z:List AV)(h:AH)(off n0:Nat):(St.mk e (L++a::b::d::e::f::g::i::j::k::m::n::o::z::zs) h).cells (.lp (L.length+12) off) n0=sub z off n0:=cM (i:=12) rfl
theorem NO(e:List AV)(L zs:List (List AV))(a b d e f g i j k m n o z:List AV)(h:AH)(off:Nat)(vs:List AV):(St.mk e (L++a::b::d::e::f::g::i::j::k::m::n::o::z::zs) h).store (.lp (L.length+12) off) vs=jr (fun z'=>⟨e,L++a::b::d::e::f::g::i::j::k::m::n::o::z'::zs,h⟩) (gF ⟨e,L++a::b::d::e::f::g::i::j::k::m::n::o::z::zs,h⟩ (.lp (L.length+12) off) vs) (lv z off vs):=
  dN fun _ hs=>cL (i:=12) rfl hs
theorem Om(L:List (List AV))(a b d e f g i j k m n o:List AV):(L++[a,b,d,e,f,g,i,j,k,m,n,o]).length=L.length+12:=by simp
theorem Q1(L:List (List AV))(a b d e f g i j k m n o z:List AV):(L++[a,b,d,e,f,g,i,j,k,m,n,o])++[z]=L++[a,b,d,e,f,g,i,j,k,m,n,o,z]:=by simp
theorem L6(e:List AV)(L zs:List (List AV))(a b d e f g i j k m n o p z:List AV)(h:AH)(off n0:Nat):(St.mk e (L++a::b::d::e::f::g::i::j::k::m::n::o::p::z::zs) h).cells (.lp (L.length+13) off) n0=sub z off n0:=cM (i:=13) rfl
theorem Pt(e:List AV)(L zs:List (List AV))(a b d e f g i j k m n o p z:List AV)(h:AH)(off:Nat)(vs:List AV):(St.mk e (L++a::b::d::e::f::g::i::j::k::m::n::o::p::z::zs) h).store (.lp (L.length+13) off) vs=jr (fun z'=>⟨e,L++a::b::d::e::f::g::i::j::k::m::n::o::p::z'::zs,h⟩) (gF ⟨e,L++a::b::d::e::f::g::i::j::k::m::n::o::p::z::zs,h⟩ (.lp (L.length+13) off) vs) (lv z off vs):=
  dN fun _ hs=>cL (i:=13) rfl hs
theorem QQ(L:List (List AV))(a b d e f g i j k m n o p:List AV):(L++[a,b,d,e,f,g,i,j,k,m,n,o,p]).length=L.length+13:=by simp
theorem Mf(L:List (List AV))(a b d e f g i j k m n o p z:List AV):(L++[a,b,d,e,f,g,i,j,k,m,n,o,p])++[z]=L++[a,b,d,e,f,g,i,j,k,m,n,o,p,z]:=by simp
theorem aE:type_of% (And.intro @TH (And.intro @Tx (And.intro @T4 (And.intro @Uc (And.intro @TD (And.intro @TS (And.intro @Ug (And.intro @Tp (And.intro @Tt (And.intro @TA (And.intro @Ts (And.intro @Tr (And.intro @TX (And.intro @T3 (And.intro @T0 (And.intro @Uq (And.intro @Ua (And.intro @TN (And.intro @Tn (And.intro @TT (And.intro @TG (And.intro @Ud (And.intro @Ue (And.intro @TJ (And.intro @OR (And.intro @P1 (And.intro @Nr (And.intro @QR (And.intro @Nw (And.intro @OS (And.intro @Rw (And.intro @N8 (And.intro @Rm (And.intro @NO (And.intro @Om (And.intro @Q1 (And.intro @L6 (And.intro @Pt (And.intro @QQ (@Mf)))))))))))))))))))))))))))))))))))))))):=(And.intro @TH (And.intro @Tx (And.intro @T4 (And.intro @Uc (And.intro @TD (And.intro @TS (And.intro @Ug (And.intro @Tp (And.intro @Tt (And.intro @TA (And.intro @Ts (And.intro @Tr (And.intro @TX (And.intro @T3 (And.intro @T0 (And.intro @Uq (And.intro @Ua (And.intro @TN (And.intro @Tn (And.intro @TT (And.intro @TG (And.intro @Ud (And.intro @Ue (And.intro @TJ (And.intro @OR (And.intro @P1 (And.intro @Nr (And.intro @QR (And.intro @Nw (And.intro @OS (And.intro @Rw (And.intro @N8 (And.intro @Rm (And.intro @NO (And.intro @Om (And.intro @Q1 (And.intro @L6 (And.intro @Pt (And.intro @QQ (@Mf))))))))))))))))))))))))))))))))))))))))
end Go.AM
namespace Go.AM
end Go.AM
namespace Go.AM
theorem g6{h:AH}{b:Nat}{x:Nat×List AV}(e:b7 h b=some x):b<h.length:=ay (cS e)
theorem qV{h:AH}{b:Nat}{x:Nat×List AV}(e:b7 h b=some x)(N:AH):b7 (h++N) b=some x:=by
  have:=cS e
  exact yl (by rw[List.getElem?_append_left (ay this)];exact this)
theorem tP{e e':List AV}{l l':List (List AV)}{h:AH}{a:AV}{n:Nat}{x:List AV}(ha:∀i o,a≠.lp i o)(hx:(St.mk e l h).cells a n=some x)(N:AH):(St.mk e' l' (h++N)).cells a n=some x:=by
  cases a<;>simp only[St.cells]at hx ⊢<;>try exact hx
  · exact absurd rfl (ha _ _)
  · rw[Option.bind_eq_some_iff]at hx
    obtain⟨y,h1,h2⟩:=hx
    rw[qV h1];exact h2
theorem FU{p:AV}(h:g9 p=true)(off:Nat):∀i o,CE p off≠.lp i o:=by
  intro i o e;cases p<;>simp[CE,g9]at e h
theorem Ptr.grow{H:AH}{p:AV}{cs:List AV}(h:Ptr H p cs)(N:AH):Ptr (H++N) p cs:=by
  refine⟨h.nil,h.out,h.n1,h.fld,fun e l off n hn=>?_,fun e l n hn=>?_⟩
  · have h1:=h.rd e l off n hn
    have:sub cs off (n+1)=some ((cs.drop off).take (n+1)):=by simp only[sub];rw[if_pos hn]
    rw[this]at h1 ⊢
    exact tP (FU h.n1 off) h1 N
  · have h1:=h.rd0 e l n hn
    have:sub cs 0 (n+1)=some ((cs.drop 0).take (n+1)):=by simp only[sub];rw[if_pos (by omega)]
    rw[this]at h1 ⊢
    exact tP (by intro i o e;subst e;have:=h.n1;simp[g9]at this) h1 N
end Go.AM
namespace Go.AM
section
variable {P:Program} {Θ:lF} {Γ:bY}
theorem Rz(f:RS→Option AV):List.mapM f []=some []:=rfl
theorem MG(f:RS→Option AV)(x:RS)(xs:List RS):List.mapM f (x::xs)=(f x).bind fun y=>(List.mapM f xs).map (y :: ·):=by
  rw[List.mapM_cons];cases f x<;>simp
  cases List.mapM f xs<;>simp
theorem Ph(vs:List AV):dJ (.tup vs)=vs.all dY:=rfl
def u4(s:St)(i:Nat):AV→AR|.tup vs=>.iI s vs[i]? | _=>.stuck
theorem Cb(gl:Bool)(s:St)(x:X)(i:Nat):step Γ gl s (.extr x i)=u4 s i (s.eval Γ x):=by
  simp only[step,u4];cases s.eval Γ x<;>rfl
theorem JO(s:St)(v:AV)(vs:List AV):u4 s 0 (.tup (v::vs))=.val v s:=rfl
theorem JF(s:St)(a v:AV)(vs:List AV):u4 s 1 (.tup (a::v::vs))=.val v s:=rfl
theorem Jg(s:St)(a b v:AV)(vs:List AV):u4 s 2 (.tup (a::b::v::vs))=.val v s:=rfl
end
theorem ER:type_of% (And.intro @Rz (And.intro @MG (And.intro @Ph (And.intro @Cb (And.intro @JO (And.intro @JF (@Jg))))))):=And.intro @Rz (And.intro @MG (And.intro @Ph (And.intro @Cb (And.intro @JO (And.intro @JF (@Jg))))))
end Go.AM
namespace Go.AM
def pE{α:Type}(c:α→Int):List α→Int
  | []=>0
  | x::r=>c x+pE c r
end Go.AM
namespace Go.AM
theorem aG.pick{H:AH}{a:AV}{d:CD}:∀{A B:List AV} {D E:List CD} {fp:List Nat},A.length=D.length→aG H (A++a::B) (D++d::E) fp→fp.Nodup→
    ∃gi,b6 H a d gi∧gi.Nodup∧(∀c∈gi,c∈fp)∧∀(H2:AH) (d':CD),(∀c,c∉gi→H2[c]? = H[c]?)→b6 H2 a d' gi→aG H2 (A++a::B) (D++d'::E) fp
  | [],B,[],E,fp,_,⟨f1,f2,e,o1,o2⟩,nd=>by
    subst e
    have hd:=List.nodup_append.1 nd
    exact⟨f1,o1,hd.1,fun c h=>by simp[h],fun H2 d' hf o=>⟨f1,f2,rfl,o,o2.frame fun c hc=>hf c (fun h=>hd.2.2 c h c hc rfl)⟩⟩
  | x::A,B,y::D,E,fp,hl,⟨f1,f2,e,o1,o2⟩,nd=>by
    subst e
    have hd:=List.nodup_append.1 nd
    obtain⟨gi,q1,q2,q3,q4⟩:=aG.pick (by simpa using hl) o2 hd.2.1
    exact⟨gi,q1,q2,fun c h=>by simp[q3 c h],fun H2 d' hf o=>⟨f1,f2,rfl,o1.frame fun c hc=>hf c (fun h=>hd.2.2 c hc c (q3 c h) rfl),q4 H2 d' hf o⟩⟩
end Go.AM
namespace Go.AM
def ae.pl(x:ae):Int:=2
def js.pl(x:js):Int:=3
def aM.pl(x:aM):Int:=6+pE ae.pl x.args
def cf.pl(x:cf):Int:=2
def aq.pl(x:aq):Int:=9+pE ae.pl x.slots+pE aM.pl x.queue+pE cf.pl x.askers
def aI.pl(x:aI):Int:=3
def aP.pl(x:aP):Int:=2
def aB.pl(x:aB):Int:=4+pE aI.pl x.exports+pE aP.pl x.questions+pE aP.pl x.answers
def bW.pl(x:bW):Int:=2
def bm.pl(x:bm):Int:=11+pE bW.pl x.args
def aJ.pl(x:aJ):Int:=12+pE bW.pl x.message.args
def ar.pl(x:ar):Int:=1+pE aq.pl x.entities+pE aM.pl x.loop+pE aB.pl x.links+pE aJ.pl x.out
end Go.AM
