import Derived.Test.YtolciaflplefcaaGreatAmG7
set_option linter.unusedVariables false
set_option linter.unusedSimpArgs false
open Nat renaming le_trans→Aaa,lt_or_ge→Aas,zero_add→Aax
open Option renaming bind_some→Aab,map_eq_some_iff→Aat
open List renaming getElem?_eq_getElem→Aac,getElem_cons_succ→Aad,findIdx?_eq_some_iff_getElem→Aaf,all_eq_true→Aah,append_nil→Aai,findIdx?_eq_none_iff→Aal,nodup_append→Aam,all_cons→Aan,getElem_mem→Aap,drop_of_length_le→Aaq,all_nil→Aar,replicate_zero→Aau,map_nil→Aav,mem_map→Aaw,all_flatten→Aay,flatten_nil→Aaz,mapM→AaA,all_append→AaB,nil_append→AaC
open Bool renaming false_eq_true→Aae,and_eq_true→Aag,decide_and→Aaj,not_false→Aak,not_true→Aao,and_true→AaD
namespace Go.AM
structure an where
 kind:Int
 n:Int
 deriving DecidableEq,Inhabited
def an.cd(x:an):List CD:=[.i .i64 x.kind,.i .i64 x.n]
def an.c(β:Bool)(x:an):List AV:=[.int .i64 x.kind,.int .i64 x.n]
theorem an.bO(β:Bool)(x:an):x.cd.map (CD.av β)=x.c β:=by simp[an.cd,an.c,CD.mY,CD.uC,CD.uD,CD.pV,Function.comp_def]
theorem an.lX(β:Bool)(x:an):(x.c β).length=2:=rfl
theorem an.iX(β:Bool)(x:an):(x.c β).all bM=true:=rfl
theorem an.dec(x y:an):(x.kind=y.kind∧x.n=y.n)=(x=y):=by cases x;cases y;simp
structure nO where
 vat:Int
 entity:Int
 seq:Int
 deriving DecidableEq,Inhabited
def nO.cd(x:nO):List CD:=[.i .i64 x.vat,.i .i64 x.entity,.i .i64 x.seq]
def nO.c(β:Bool)(x:nO):List AV:=[.int .i64 x.vat,.int .i64 x.entity,.int .i64 x.seq]
theorem nO.bO(β:Bool)(x:nO):x.cd.map (CD.av β)=x.c β:=by simp[nO.cd,nO.c,CD.mY,CD.uC,CD.uD,CD.pV,Function.comp_def]
theorem nO.lX(β:Bool)(x:nO):(x.c β).length=3:=rfl
theorem nO.iX(β:Bool)(x:nO):(x.c β).all bM=true:=rfl
theorem nO.dec(x y:nO):(x.vat=y.vat∧x.entity=y.entity∧x.seq=y.seq)=(x=y):=by cases x;cases y;simp
structure aK where
 target:Int
 name:ByteArray
 args:List an
 result:Int
 tag:nO
 deriving DecidableEq,Inhabited
def aK.cd(x:aK):List CD:=[.i .i64 x.target,.s x.name,.sl 2 (x.args.map an.cd),.i .i64 x.result,.i .i64 x.tag.vat,.i .i64 x.tag.entity,.i .i64 x.tag.seq]
def aK.c(β:Bool)(x:aK):List AV:=[.int .i64 x.target,.str x.name,.vs β 2 false (x.args.map (an.c β)),.int .i64 x.result,.int .i64 x.tag.vat,.int .i64 x.tag.entity,.int .i64 x.tag.seq]
theorem aK.bO(β:Bool)(x:aK):x.cd.map (CD.av β)=x.c β:=by simp[aK.cd,aK.c,CD.mY,CD.uC,CD.uD,CD.pV,Function.comp_def,an.bO]
theorem aK.lX(β:Bool)(x:aK):(x.c β).length=7:=rfl
theorem aK.iX(β:Bool)(x:aK):(x.c β).all bM=true:=rfl
def aK.ok(N:Nat)(x:aK):Prop:=(x.name.size≤N)∧(x.args.length≤N)
theorem aK.ok.mono{N M:Nat}(hN:N≤M){x:aK}(h:x.ok N):x.ok M:=⟨Aaa h.1 hN,Aaa h.2 hN⟩
structure cj where
 peer:Int
 question:Int
 deriving DecidableEq,Inhabited
def cj.cd(x:cj):List CD:=[.i .i64 x.peer,.i .i64 x.question]
def cj.c(β:Bool)(x:cj):List AV:=[.int .i64 x.peer,.int .i64 x.question]
theorem cj.bO(β:Bool)(x:cj):x.cd.map (CD.av β)=x.c β:=by simp[cj.cd,cj.c,CD.mY,CD.uC,CD.uD,CD.pV,Function.comp_def]
theorem cj.lX(β:Bool)(x:cj):(x.c β).length=2:=rfl
theorem cj.iX(β:Bool)(x:cj):(x.c β).all bM=true:=rfl
theorem cj.dec(x y:cj):(x.peer=y.peer∧x.question=y.question)=(x=y):=by cases x;cases y;simp
structure aA where
 kind:Int
 script:Int
 slots:List an
 state:Int
 value:an
 queue:List aK
 askers:List cj
 peer:Int
 pos:Int
 count:Int
 sent:Int
 deriving DecidableEq,Inhabited
def aA.cd(x:aA):List CD:=[.i .i64 x.kind,.i .i64 x.script,.sl 2 (x.slots.map an.cd),.i .i64 x.state,.i .i64 x.value.kind,.i .i64 x.value.n,.sl 7 (x.queue.map aK.cd),.sl 2 (x.askers.map cj.cd),.i .i64 x.peer,.i .i64 x.pos,.i .i64 x.count,.i .i64 x.sent]
def aA.c(β:Bool)(x:aA):List AV:=[.int .i64 x.kind,.int .i64 x.script,.vs β 2 false (x.slots.map (an.c β)),.int .i64 x.state,.int .i64 x.value.kind,.int .i64 x.value.n,.vs β 7 false (x.queue.map (aK.c β)),.vs β 2 false (x.askers.map (cj.c β)),.int .i64 x.peer,.int .i64 x.pos,.int .i64 x.count,.int .i64 x.sent]
theorem aA.bO(β:Bool)(x:aA):x.cd.map (CD.av β)=x.c β:=by simp[aA.cd,aA.c,CD.mY,CD.uC,CD.uD,CD.pV,Function.comp_def,cj.bO,aK.bO,an.bO]
theorem aA.lX(β:Bool)(x:aA):(x.c β).length=12:=rfl
theorem aA.iX(β:Bool)(x:aA):(x.c β).all bM=true:=rfl
def aA.ok(N:Nat)(x:aA):Prop:=(x.slots.length≤N)∧(x.queue.length≤N)∧(∀y∈x.queue,y.ok N)∧(x.askers.length≤N)
theorem aA.ok.mono{N M:Nat}(hN:N≤M){x:aA}(h:x.ok N):x.ok M:=⟨Aaa h.1 hN,Aaa h.2.1 hN,fun y hy=>(h.2.2.1 y hy).mono hN,Aaa h.2.2.2 hN⟩
structure aE where
 pos:Int
 entity:Int
 count:Int
 deriving DecidableEq,Inhabited
def aE.cd(x:aE):List CD:=[.i .i64 x.pos,.i .i64 x.entity,.i .i64 x.count]
def aE.c(β:Bool)(x:aE):List AV:=[.int .i64 x.pos,.int .i64 x.entity,.int .i64 x.count]
theorem aE.bO(β:Bool)(x:aE):x.cd.map (CD.av β)=x.c β:=by simp[aE.cd,aE.c,CD.mY,CD.uC,CD.uD,CD.pV,Function.comp_def]
theorem aE.lX(β:Bool)(x:aE):(x.c β).length=3:=rfl
theorem aE.iX(β:Bool)(x:aE):(x.c β).all bM=true:=rfl
theorem aE.dec(x y:aE):(x.pos=y.pos∧x.entity=y.entity∧x.count=y.count)=(x=y):=by cases x;cases y;simp
structure aB where
 id:Int
 promise:Int
 deriving DecidableEq,Inhabited
def aB.cd(x:aB):List CD:=[.i .i64 x.id,.i .i64 x.promise]
def aB.c(β:Bool)(x:aB):List AV:=[.int .i64 x.id,.int .i64 x.promise]
theorem aB.bO(β:Bool)(x:aB):x.cd.map (CD.av β)=x.c β:=by simp[aB.cd,aB.c,CD.mY,CD.uC,CD.uD,CD.pV,Function.comp_def]
theorem aB.lX(β:Bool)(x:aB):(x.c β).length=2:=rfl
theorem aB.iX(β:Bool)(x:aB):(x.c β).all bM=true:=rfl
theorem aB.dec(x y:aB):(x.id=y.id∧x.promise=y.promise)=(x=y):=by cases x;cases y;simp
structure aF where
 peer:Int
 up:Bool
 exports:List aE
 next:Int
 questions:List aB
 asked:Int
 answers:List aB
 deriving DecidableEq,Inhabited
def aF.cd(x:aF):List CD:=[.i .i64 x.peer,.b x.up,.sl 3 (x.exports.map aE.cd),.i .i64 x.next,.sl 2 (x.questions.map aB.cd),.i .i64 x.asked,.sl 2 (x.answers.map aB.cd)]
def aF.c(β:Bool)(x:aF):List AV:=[.int .i64 x.peer,.bool x.up,.vs β 3 false (x.exports.map (aE.c β)),.int .i64 x.next,.vs β 2 false (x.questions.map (aB.c β)),.int .i64 x.asked,.vs β 2 false (x.answers.map (aB.c β))]
theorem aF.bO(β:Bool)(x:aF):x.cd.map (CD.av β)=x.c β:=by simp[aF.cd,aF.c,CD.mY,CD.uC,CD.uD,CD.pV,Function.comp_def,aE.bO,aB.bO]
theorem aF.lX(β:Bool)(x:aF):(x.c β).length=7:=rfl
theorem aF.iX(β:Bool)(x:aF):(x.c β).all bM=true:=rfl
def aF.ok(N:Nat)(x:aF):Prop:=(x.exports.length≤N)∧(x.questions.length≤N)∧(x.answers.length≤N)
theorem aF.ok.mono{N M:Nat}(hN:N≤M){x:aF}(h:x.ok N):x.ok M:=⟨Aaa h.1 hN,Aaa h.2.1 hN,Aaa h.2.2 hN⟩
structure aJ where
 kind:Int
 n:Int
 deriving DecidableEq,Inhabited
def aJ.cd(x:aJ):List CD:=[.i .i64 x.kind,.i .i64 x.n]
def aJ.c(β:Bool)(x:aJ):List AV:=[.int .i64 x.kind,.int .i64 x.n]
theorem aJ.bO(β:Bool)(x:aJ):x.cd.map (CD.av β)=x.c β:=by simp[aJ.cd,aJ.c,CD.mY,CD.uC,CD.uD,CD.pV,Function.comp_def]
theorem aJ.lX(β:Bool)(x:aJ):(x.c β).length=2:=rfl
theorem aJ.iX(β:Bool)(x:aJ):(x.c β).all bM=true:=rfl
theorem aJ.dec(x y:aJ):(x.kind=y.kind∧x.n=y.n)=(x=y):=by cases x;cases y;simp
structure ah where
 kind:Int
 pos:Int
 answer:Int
 question:Int
 name:ByteArray
 args:List aJ
 value:aJ
 count:Int
 tag:nO
 deriving DecidableEq,Inhabited
def ah.cd(x:ah):List CD:=[.i .i64 x.kind,.i .i64 x.pos,.i .i64 x.answer,.i .i64 x.question,.s x.name,.sl 2 (x.args.map aJ.cd),.i .i64 x.value.kind,.i .i64 x.value.n,.i .i64 x.count,.i .i64 x.tag.vat,.i .i64 x.tag.entity,.i .i64 x.tag.seq]
def ah.c(β:Bool)(x:ah):List AV:=[.int .i64 x.kind,.int .i64 x.pos,.int .i64 x.answer,.int .i64 x.question,.str x.name,.vs β 2 false (x.args.map (aJ.c β)),.int .i64 x.value.kind,.int .i64 x.value.n,.int .i64 x.count,.int .i64 x.tag.vat,.int .i64 x.tag.entity,.int .i64 x.tag.seq]
theorem ah.bO(β:Bool)(x:ah):x.cd.map (CD.av β)=x.c β:=by simp[ah.cd,ah.c,CD.mY,CD.uC,CD.uD,CD.pV,Function.comp_def,aJ.bO]
theorem ah.lX(β:Bool)(x:ah):(x.c β).length=12:=rfl
theorem ah.iX(β:Bool)(x:ah):(x.c β).all bM=true:=rfl
def ah.ok(N:Nat)(x:ah):Prop:=(x.name.size≤N)∧(x.args.length≤N)
theorem ah.ok.mono{N M:Nat}(hN:N≤M){x:ah}(h:x.ok N):x.ok M:=⟨Aaa h.1 hN,Aaa h.2 hN⟩
structure aY where
 to_:Int
 message:ah
 deriving DecidableEq,Inhabited
def aY.cd(x:aY):List CD:=[.i .i64 x.to_,.i .i64 x.message.kind,.i .i64 x.message.pos,.i .i64 x.message.answer,.i .i64 x.message.question,.s x.message.name,.sl 2 (x.message.args.map aJ.cd),.i .i64 x.message.value.kind,.i .i64 x.message.value.n,.i .i64 x.message.count,.i .i64 x.message.tag.vat,.i .i64 x.message.tag.entity,.i .i64 x.message.tag.seq]
def aY.c(β:Bool)(x:aY):List AV:=[.int .i64 x.to_,.int .i64 x.message.kind,.int .i64 x.message.pos,.int .i64 x.message.answer,.int .i64 x.message.question,.str x.message.name,.vs β 2 false (x.message.args.map (aJ.c β)),.int .i64 x.message.value.kind,.int .i64 x.message.value.n,.int .i64 x.message.count,.int .i64 x.message.tag.vat,.int .i64 x.message.tag.entity,.int .i64 x.message.tag.seq]
theorem aY.bO(β:Bool)(x:aY):x.cd.map (CD.av β)=x.c β:=by simp[aY.cd,aY.c,CD.mY,CD.uC,CD.uD,CD.pV,Function.comp_def,aJ.bO]
theorem aY.lX(β:Bool)(x:aY):(x.c β).length=13:=rfl
theorem aY.iX(β:Bool)(x:aY):(x.c β).all bM=true:=rfl
def aY.ok(N:Nat)(x:aY):Prop:=(x.message.ok N)
theorem aY.ok.mono{N M:Nat}(hN:N≤M){x:aY}(h:x.ok N):x.ok M:=ah.ok.mono hN h
structure ar where
 id:Int
 entities:List aA
 loop:List aK
 aq:List aF
 out:List aY
 deriving DecidableEq,Inhabited
def ar.cd(x:ar):List CD:=[.i .i64 x.id,.sl 12 (x.entities.map aA.cd),.sl 7 (x.loop.map aK.cd),.sl 7 (x.aq.map aF.cd),.sl 13 (x.out.map aY.cd)]
def ar.c(β:Bool)(x:ar):List AV:=[.int .i64 x.id,.vs β 12 false (x.entities.map (aA.c β)),.vs β 7 false (x.loop.map (aK.c β)),.vs β 7 false (x.aq.map (aF.c β)),.vs β 13 false (x.out.map (aY.c β))]
theorem ar.bO(β:Bool)(x:ar):x.cd.map (CD.av β)=x.c β:=by simp[ar.cd,ar.c,CD.mY,CD.uC,CD.uD,CD.pV,Function.comp_def,aA.bO,aF.bO,aY.bO,aK.bO]
theorem ar.lX(β:Bool)(x:ar):(x.c β).length=5:=rfl
theorem ar.iX(β:Bool)(x:ar):(x.c β).all bM=true:=rfl
def ar.ok(N:Nat)(x:ar):Prop:=(x.entities.length≤N)∧(∀y∈x.entities,y.ok N)∧(x.loop.length≤N)∧(∀y∈x.loop,y.ok N)∧(x.aq.length≤N)∧(∀y∈x.aq,y.ok N)∧(x.out.length≤N)∧(∀y∈x.out,y.ok N)
theorem ar.ok.mono{N M:Nat}(hN:N≤M){x:ar}(h:x.ok N):x.ok M:=⟨Aaa h.1 hN,fun y hy=>(h.2.1 y hy).mono hN,Aaa h.2.2.1 hN,fun y hy=>(h.2.2.2.1 y hy).mono hN,Aaa h.2.2.2.2.1 hN,fun y hy=>(h.2.2.2.2.2.1 y hy).mono hN,Aaa h.2.2.2.2.2.2.1 hN,fun y hy=>(h.2.2.2.2.2.2.2 y hy).mono hN⟩
end Go.AM
namespace Go.AM
section
variable {P:Program} {Θ:ub} {Γ:bG}
theorem eY{α:Type}(β:Bool)(sz:Nat)(ex:Bool)(l:List α)(ce:α→List AV):Ce false (.vs β sz ex (l.map ce))=some (.int .i64 l.length):=by simp[Ce,AF]
theorem fI{α:Type}{β:Bool}{sz:Nat}{ex:Bool}{l:List α}{ce:α→List AV}{k:Nat}(hk:k<l.length):fh sz (.vs β sz ex (l.map ce)) (k:Int)=some (.ip β (ce l[k])):=by
 simp[fh,hk]
theorem sA{cs:List AV}{n:Nat}(h:cs.length=n):sub cs 0 n=some cs:=by subst h;simp[sub]
theorem b9.cell{h:AH}{a:AV}{d:CD}{fp:List Nat}(o:b9 h a d fp):cellsOf a=some [a]∧Go.AM.cn a=true∧Go.AM.bM a=true∧gq a=true:=by
 cases o<;>exact⟨rfl,rfl,rfl,rfl⟩
theorem aX.one{h h':AH}{d:CD}{v:AV}(f:aX h [.c d] v h'):∃new fp,h'=h++new∧b9 h' v d fp∧fp.Nodup∧∀b∈fp,h.length≤b:=by
 obtain⟨vs,new,fp,rfl,rfl,o,nd,hb,_⟩:=f
 match vs,o with
 | [v],⟨f1,f2,e,o1,o2⟩=>
  have:f2=[]:=o2;subst this;simp only[Aai]at e;subst e;exact⟨new,_,rfl,o1,nd,hb⟩
theorem aX.oneA{h h':AH}{cs:List CD}{v:AV}(f:aX h [.a cs] v h'):∃zas new fp,v=.agg zas∧h'=h++new∧aM h' zas cs fp∧fp.Nodup∧∀b∈fp,h.length≤b:=by
 obtain⟨vs,new,fp,rfl,rfl,o,nd,hb,_⟩:=f
 match vs,o with
 | [v],⟨f1,f2,e,o1,o2⟩=>
  have:f2=[]:=o2;subst this;simp only[Aai]at e;subst e;obtain⟨zas,rfl,o1⟩:=o1;exact⟨zas,new,_,rfl,rfl,o1,nd,hb⟩
theorem T.xC{f:FuncId}{args:List AV}{h:AH}{d:CD}(t:T P Γ f args h fun v h'=>∃new fp,h'=h++new∧b9 h' v d fp∧fp.Nodup∧∀b∈fp,h.length≤b):T P Γ f args h (aX h [.c d]):=
 t.fresh fun v h' ⟨new,fp,e,o,nd,hb⟩=>⟨[v],new,fp,rfl,e,⟨fp,[],by simp,o,rfl⟩,nd,hb⟩
theorem T.jJ{f:FuncId}{args:List AV}{h:AH}{cs:List CD}(t:T P Γ f args h fun v h'=>∃zas new fp,v=.agg zas∧h'=h++new∧aM h' zas cs fp∧fp.Nodup∧∀b∈fp,h.length≤b):T P Γ f args h (aX h [.a cs]):=
 t.fresh fun v h' ⟨zas,new,fp,e,e',o,nd,hb⟩=>⟨[v],new,fp,rfl,e',⟨fp,[],by simp,⟨zas,e,o⟩,rfl⟩,nd,hb⟩
theorem aM.nil{h:AH}:aM h [] [] []:=rfl
theorem aM.i{h:AH}{k:IntKind}{n:Int}{zas:List AV}{ds:List CD}{fp:List Nat}(o:aM h zas ds fp):aM h (.int k n::zas) (.i k n::ds) fp:=⟨[],fp,rfl,.i _ _,o⟩
theorem aM.b{h:AH}{x:Bool}{zas:List AV}{ds:List CD}{fp:List Nat}(o:aM h zas ds fp):aM h (.bool x::zas) (.b x::ds) fp:=⟨[],fp,rfl,.b _,o⟩
theorem aM.s{h:AH}{x:ByteArray}{zas:List AV}{ds:List CD}{fp:List Nat}(o:aM h zas ds fp):aM h (.str x::zas) (.s x::ds) fp:=⟨[],fp,rfl,.s _,o⟩
theorem aM.o{h:AH}{a:AV}{d:CD}{zas:List AV}{ds:List CD}{f1 f2:List Nat}(o1:b9 h a d f1)(o:aM h zas ds f2):aM h (a::zas) (d::ds) (f1++f2):=⟨f1,f2,rfl,o1,o⟩
theorem iG{f1 f2:List Nat}{n:Nat}(h1:f1.Nodup)(h2:f2.Nodup)(l1:∀b∈f1,b<n)(l2:∀b∈f2,n≤b):(f1++f2).Nodup:=by
 rw[Aam];exact⟨h1,h2,fun a ha b hb=>by have:=l1 a ha;have:=l2 b hb;omega⟩
theorem j8{α β:Type}{l:List α}{f:α→List β}{sz:Nat}(h:∀x∈l,(f x).length=sz):((l.map f).flatten).length=l.length*sz:=by
 induction l with
 | nil=>simp
 | cons x l ih=>simp[ih (fun y hy=>h y (by simp[hy])),h x (by simp),Nat.succ_mul,Nat.add_comm]
end
end Go.AM
namespace Go.AM
section
variable {P:Program} {Θ:ub} {Γ:bG}
def CD.flat:CD→Bool|.sl _ _=>false|_=>true
theorem CD.F7{h:AH}{d:CD}(hd:d.flat=true)(β:Bool):b9 h (d.av β) d []:=by
 cases d<;>first|(simp[CD.flat]at hd;done)|(simp only[CD.av];constructor)
theorem pI{h:AH}(β:Bool):∀{cs:List CD},cs.all CD.flat=true→aM h (cs.map (CD.av β)) cs []
 | [],_=>rfl
 | d::r,hc=>by
  simp only[Aan,Aag]at hc;exact⟨[],[],rfl,CD.F7 hc.1 β,pI β hc.2⟩
theorem T.flat{f:FuncId}{args:List AV}{h:AH}{x:List AV}(t:T P Γ f args h fun v h'=>v=.agg x∧h'=h){cs:List CD}(hc:cs.all CD.flat=true)(hx:x=cs.map (CD.av false)):T P Γ f args h (aX h [.a cs]):=by
 refine T.jJ (t.mono ?_);rintro v h' ⟨rfl,rfl⟩;exact⟨_,[],[],rfl,by simp,by rw[hx];exact pI false hc,by simp,by simp⟩
theorem ag(a b:Int):(a != b) = !decide (a=b):=by by_cases h:a=b<;>simp[h]
theorem bD(a b:Bool):(a == b)=decide (a=b):=by cases a<;>cases b<;>rfl
theorem FR(bs:ByteArray):∀(n i:Nat) (r:List UInt8),bs.size-i=n→ByteArray.toList.loop bs i r=r.reverse++bs.data.toList.drop i:=by
 intro n
 induction n with
 | zero=>
  intro i r h;unfold ByteArray.toList.loop;have hs:bs.data.toList.length=bs.size:=rfl;rw[if_neg (by omega),Aaq (by omega),Aai]
 | succ n ih=>
  intro i r h;have hs:bs.data.toList.length=bs.size:=rfl;unfold ByteArray.toList.loop;rw[if_pos (by omega),ih (i+1) _ (by omega),List.drop_eq_getElem_cons (show i<bs.data.toList.length by omega)];have hi:i<bs.data.size:=by simpa using(show i<bs.data.toList.length by omega)
  have e:bs.data[i]! = bs.data[i]:=by rw[getElem!_pos bs.data i hi]
  simp[ByteArray.get!,e]
theorem toList_eq(b:ByteArray):b.toList=b.data.toList:=by
 unfold ByteArray.toList;rw[FR b _ 0 [] rfl];simp
theorem str_inj{a b:ByteArray}(h:a.toList=b.toList):a=b:=by
 rw[toList_eq,toList_eq]at h;exact ByteArray.ext (Array.ext' h)
theorem cG(a b:ByteArray):(a.toList == b.toList)=decide (a=b):=by
 by_cases h:a=b
 ·subst h;simp
 ·rw[aW h];simp;exact fun e=>h (str_inj e)
end
end Go.AM
namespace Go.AM
theorem EY:type_of% (And.intro EV (And.intro EL (And.intro EB (And.intro @Aae (And.intro @if_true.{1} (And.intro @if_false.{1} (@Aab.{0,0}))))))):=And.intro EV (And.intro EL (And.intro EB (And.intro @Aae (And.intro @if_true.{1} (And.intro @if_false.{1} (@Aab.{0,0}))))))
end Go.AM
namespace Go.AM
section
variable {P:Program} {Θ:ub} {Γ:bG}
def iq{α:Type}(p:α→Bool)(l:List α):Int:=match l.findIdx? p with|some i=>(i:Int)|none=>-1
theorem iB{α:Type}(p:α→Bool)(l:List α):(∃(k:Nat) (hk:k<l.length),iq p l=(k:Int)∧p l[k]=true∧l.find? p=some l[k])∨(iq p l = -1∧l.find? p=none∧∀x∈l,p x=false):=by
 unfold iq;cases h:l.findIdx? p with
 | none=>
  rw[Aal]at h;exact .inr ⟨rfl,by rw[List.find?_eq_none];intro x hx;simp[h x hx],fun x hx=>h x hx⟩
 | some i=>
  obtain⟨hi,h1,h2⟩:=Aaf.1 h;refine .inl ⟨i,hi,rfl,h1,?_⟩;rw[List.find?_eq_some_iff_getElem];exact⟨h1,i,hi,rfl,fun j hj=>by simpa using h2 j hj⟩
theorem wU{α:Type}{p:α→Bool}{l:List α}{k:Nat}(hk:k<l.length)(h0:∀(i:Nat) (hi:i<l.length),i<k→p l[i]=false)(h1:p l[k]=true):iq p l=(k:Int):=by
 unfold iq;rw[Aaf.2 ⟨hk,h1,fun j hj=>by simp[h0 j (by omega) hj]⟩]
theorem qU{α:Type}{p:α→Bool}{l:List α}(h:∀(i:Nat) (hi:i<l.length),p l[i]=false):iq p l = -1:=by
 unfold iq;rw[Aal.2];intro x hx;obtain⟨i,hi,rfl⟩:=List.mem_iff_getElem.1 hx;exact h i hi
theorem my{α:Type}(tab:iO P Θ)(hm:P.follows .mixedOrders=true){f:FuncId}{sz:Nat}{agg:Bool}(hE:Mh P Θ Γ f (Ci sz agg) [.t 4] [u,u,u,u,u,u,u,u,u,u,u,u,u,u,u,u,u])
 {β:Bool} {l:List α} {c:α→List AV} (hb:l.length<1099511627776) (hx:∀x,MX agg sz (c x)∧gq (UD agg (c x))=true) {g:FuncId} {first caps:List AV} (hc:(first++caps).all gq=true) (p:α→Bool) {h:AH}
 (hp:∀x∈l,T P Γ g (first++([UD agg (c x)]++caps)) h fun v h'=>v=.bool (p x)∧h'=h):
 T P Γ f [.vs β sz false (l.map c),.fn g first caps] h fun v h'=>v=.int .i64 (iq p l)∧h'=h:=by
 have L0:=eY β sz false l c;generalize e0:AV.vs β sz false (l.map c)=a0 at *;refine hE (aC tab hm [] _ _ _ ?_);unfold Ci;simp only[EV,EL,L0];refine fD tab hm [] (fun k:Nat=>k≤l.length∧∀(i:Nat) (hi:i<l.length),i<k→p l[i]=false) (fun k=>l.length-k)
  (fun k=>⟨[a0,.fn g first caps,.any,.any,.any,.any,.any,.int .i64 l.length,.int .i64 k,.any,.any,.any,.any,.any,.any,.any,.any,.any,.any],[],h⟩) 0 ⟨by omega,fun i hi h=>by omega⟩ ⟨by simp[gW,gM],rfl,rfl⟩ ?_
 rintro k ⟨hk,ht⟩;simp only[EV,EL];refine bz (fun hlt=>?_) (fun hge=>?_)
 ·have hlt:k<l.length:=by simpa using hlt
  have i0:=fI (β:=β) (sz:=sz) (ex:=false) (ce:=c) hlt;rw[e0]at i0;simp only[EV,EL,i0,DZ (hx l[k]).1];refine al.val ?_ (hp _ (Aap hlt)) ?_
  ·simp only[AaB,Aan,Aar,AaD,Aag]at hc ⊢;exact⟨hc.1,(hx l[k]).2,hc.2⟩
  simp only[EV,EL];refine bz (fun hpt=>?_) (fun hpf=>?_)
  ·simp only[EV,EL];exact⟨rfl,by rw[wU hlt ht hpt]⟩
  ·simp only[EV,EL];refine⟨k+1,⟨hlt,fun i hi hik=>?_⟩,by omega,⟨?_,rfl,rfl⟩⟩
   ·rcases Aas i k with h1|h1
    ·exact ht i hi h1
    ·have:i=k:=by omega
     subst this;exact hpf
   ·rw[wN (by omega)];simp[gW,gM]
 ·have hge:k=l.length:=by simp at hge;omega
  simp only[EV,EL];exact⟨rfl,by rw[qU (fun i hi=>ht i hi (by omega))]⟩
def Is(sz sz':Nat)(z z':List AV):C:=.seq (.reg [⟨(some 6),none,.mov (.c (.bool false))⟩]) (.seq (.seq (.reg [⟨(some 10),none,.mov (.t 0)⟩,
 ⟨(some 11),none,.len false (.t 10)⟩,
 ⟨(some 12),none,.mov (.t 1)⟩,
 ⟨(some 13),none,.len false (.t 12)⟩,
 ⟨(some 14),none,.bin .neq (.num) (.t 11) (.t 13)⟩]) (.cond (.t 14) (.seq (.reg [⟨(some 6),none,.mov (.c (.bool false))⟩]) (.ret)) (.skip))) (.seq (.seq (.reg [⟨(some 15),none,.mov (.t 0)⟩,
 ⟨(some 16),none,.len false (.t 15)⟩,
 ⟨(some 17),none,.mov (.c (.int .i64 0))⟩]) (.block 0 (.loop (.seq (.reg [⟨(some 18),none,.bin .lss (.num) (.t 17) (.t 16)⟩]) (.seq (.cond (.t 18) (.skip) (.exit 0)) (.seq (.block 1 (.seq (.reg [⟨(some 19),none,.mov (.t 17)⟩,
 ⟨(some 20),none,.idxs sz (.t 15) (.t 17)⟩,
 ⟨(some 21),none,.load sz true (.t 20)⟩,
 ⟨(some 8),none,.alloc z⟩,
 ⟨(some 7),none,.mov (.t 19)⟩,
 ⟨none,none,.store sz (.t 8) (.t 21)⟩]) (.seq (.reg [⟨(some 22),none,.mov (.t 1)⟩,
 ⟨(some 23),none,.mov (.t 7)⟩,
 ⟨(some 24),none,.idxs sz' (.t 22) (.t 23)⟩,
 ⟨(some 25),none,.load sz' true (.t 24)⟩,
 ⟨(some 9),none,.alloc z'⟩,
 ⟨none,none,.store sz' (.t 9) (.t 25)⟩]) (.seq (.reg [⟨(some 26),none,.mov (.t 2)⟩,
 ⟨(some 27),none,.load sz true (.t 8)⟩,
 ⟨(some 28),none,.load sz' true (.t 9)⟩,
 ⟨(some 29),none,.call (.t 26) [.t 27,.t 28]⟩,
 ⟨(some 30),none,.un .not (.t 29)⟩]) (.cond (.t 30) (.seq (.reg [⟨(some 6),none,.mov (.c (.bool false))⟩]) (.ret)) (.skip)))))) (.reg [⟨(some 31),none,.bin .add (.num) (.t 17) (.c (.int .i64 1))⟩,
 ⟨(some 17),none,.mov (.t 31)⟩]))))))) (.seq (.reg [⟨(some 6),none,.mov (.c (.bool true))⟩]) (.ret))))
abbrev Tu(P:Program)(Θ:ub)(Γ:bG)(f:FuncId)(c:C)(rs:List RS)(us:List AV):Prop:=
 ∀{a0 a1 a2:AV} {h:AH} {K:AV→AH→Prop},TC P Θ Γ c (aV rs K) ⟨a0::a1::a2::us,[],h⟩→T P Γ f [a0,a1,a2] h K
theorem EW:∀{z vs:List AV},z.length=vs.length→vs.all cn=true→uh z 0 vs=some vs
 | [],[],_,_=>rfl
 | a::z,x::vs,h,hc=>by
  simp only[Aan,Aag]at hc;simp[uh,hc.1,EW (z:=z) (vs:=vs) (by simpa using h) hc.2]
theorem FT{l:List AV}(h:l.all bM=true):l.all cn=true:=by
 rw[Aah]at h ⊢;exact fun x hx=>pa (h x hx)
def vB{α γ:Type}(p:α→γ→Bool):List α→List γ→Bool
 | [],[]=>true
 | x::xs,y::ys=>p x y && vB p xs ys
 | _,_=>false
theorem CI{α γ:Type}{p:α→γ→Bool}:∀{xs:List α} {ys:List γ},xs.length≠ys.length→vB p xs ys=false
 | [],[],h=>absurd rfl h
 | x::xs,y::ys,h=>by simp[vB,CI (p:=p) (xs:=xs) (ys:=ys) (by simpa using h)]
 | [],_::_,_=>rfl
 | _::_,[],_=>rfl
theorem Ch{α γ:Type}{p:α→γ→Bool}:∀{xs:List α} {ys:List γ},xs.length=ys.length→(∀(i:Nat) (h1:i<xs.length) (h2:i<ys.length),p xs[i] ys[i]=true)→vB p xs ys=true
 | [],[],_,_=>rfl
 | x::xs,y::ys,h,hp=>by
  have h0:=hp 0 (by simp) (by simp);simp at h0;simp only[vB,h0,Bool.true_and];exact Ch (by simpa using h) (fun i h1 h2=>by have:=hp (i+1) (by simpa using h1) (by simpa using h2);rwa[Aad,Aad]at this)
theorem Au{α γ:Type}{p:α→γ→Bool}:∀{xs:List α} {ys:List γ} (i:Nat) (h1:i<xs.length) (h2:i<ys.length),p xs[i] ys[i]=false→vB p xs ys=false
 | x::xs,y::ys,0,_,_,h=>by simp at h;simp[vB,h]
 | x::xs,y::ys,i+1,h1,h2,h=>by simp only[vB,Au (xs:=xs) (ys:=ys) i (by simpa using h1) (by simpa using h2) (by rwa[Aad,Aad]at h),Bool.and_false]
theorem jR{α:Type}[DecidableEq α]:∀(xs ys:List α),vB (fun x y=>decide (x=y)) xs ys=decide (xs=ys)
 | [],[]=>rfl
 | x::xs,y::ys=>by
  simp only[vB,jR xs ys];by_cases h1:x=y<;>by_cases h2:xs=ys<;>simp[h1,h2]
 | [],_::_=>rfl
 | _::_,[]=>rfl
theorem sv{α γ:Type}(tab:iO P Θ)(hm:P.follows .mixedOrders=true){f:FuncId}{sz sz':Nat}{z z':List AV}(hz:z.length=sz)(hz':z'.length=sz')
 (hE:Tu P Θ Γ f (Is sz sz' z z') [.t 6] [u,u,u,u,u,u,u,u,u,u,u,u,u,u,u,u,u,u,u,u,u,u,u,u,u,u,u,u,u])
 {β β':Bool} {l:List α} {m:List γ} {c:α→List AV} {c':γ→List AV} (hb:l.length<1099511627776) (hx:∀x,(c x).length=sz∧(c x).all bM=true) (hy:∀x,(c' x).length=sz'∧(c' x).all bM=true)
 {g:FuncId} {first caps:List AV} (hc:(first++caps).all gq=true) (p:α→γ→Bool) {h:AH}
 (hp:∀x∈l,∀y∈m,T P Γ g (first++([.agg (c x),.agg (c' y)]++caps)) h fun v h'=>v=.bool (p x y)∧h'=h):
 T P Γ f [.vs β sz false (l.map c),.vs β' sz' false (m.map c'),.fn g first caps] h fun v h'=>v=.bool (vB p l m)∧h'=h:=by
 have L0:=eY β sz false l c;have L1:=eY β' sz' false m c';generalize e0:AV.vs β sz false (l.map c)=a0 at *;generalize e1:AV.vs β' sz' false (m.map c')=a1 at *;refine hE (aC tab hm [] _ _ _ ?_);unfold Is;simp only[EV,EL,L0,L1];refine bz (fun hne=>?_) (fun heq=>?_)
 ·simp only[EV,EL];refine⟨rfl,?_⟩;rw[CI (fun e=>by rw[e]at hne;simp at hne)]
 have hl:l.length=m.length:=by simp at heq;omega
 simp only[EV,EL,L0];refine fD tab hm [] (fun x:Nat×List (List AV)=>x.1≤l.length∧∀(i:Nat) (h1:i<l.length) (h2:i<m.length),i<x.1→p l[i] m[i]=true) (fun x=>l.length-x.1)
  (fun x=>⟨[.any,a1,.fn g first caps,.any,.any,.any,.any,.any,.any,.any,.any,.any,.any,.any,.any,a0,.int .i64 l.length,.int .i64 x.1,.any,.any,.any,.any,.any,.any,.any,.any,.any,.any,.any,.any,.any,.any],x.2,h⟩) (0,[]) ⟨by simp,fun i _ _ h=>by simp at h⟩ ⟨by simp[gW,gM],rfl,rfl⟩ ?_
 rintro⟨k,L⟩ ⟨hk,ht⟩;simp only at hk ht;simp only[EV,EL];refine bz (fun hlt=>?_) (fun hge=>?_)
 ·have hlt:k<l.length:=by simpa using hlt
  have hlt':k<m.length:=by omega
  have i0:=fI (β:=β) (sz:=sz) (ex:=false) (ce:=c) hlt;have i1:=fI (β:=β') (sz:=sz') (ex:=false) (ce:=c') hlt';rw[e0]at i0;rw[e1]at i1;have l0:=sA (hx l[k]).1;have l1:=sA (hy m[k]).1;have s0:=EW (z:=z) (vs:=c l[k]) (by rw[hz,(hx l[k]).1]) (FT (hx l[k]).2);have s1:=EW (z:=z') (vs:=c' m[k]) (by rw[hz',(hy m[k]).1]) (FT (hy m[k]).2);have n0:∀(s:St) (a:AV),va s sz a (some (c l[k]))=.G5 (s.store a (c l[k])):=fun s a=>Vr _ _ _ _ (hx l[k]).1;have n1:∀(s:St) (a:AV),va s sz' a (some (c' m[k]))=.G5 (s.store a (c' m[k])):=fun s a=>Vr _ _ _ _ (hy m[k]).1;simp only[EV,EL,i0,i1,l0,l1,Aab,n0,n1,sc0,lc0,s0,s1,KS,ll1,la1,sc1,lc1];refine al.val ?_ (hp _ (Aap hlt) _ (Aap hlt')) ?_
  ·simp only[AaB,Aan,Aar,AaD,Aag]at hc ⊢;exact⟨hc.1,by simpa[gq]using(hx l[k]).2,by simpa[gq]using(hy m[k]).2,hc.2⟩
  simp only[EV,EL];cases hq:p l[k] m[k]
  ·simp only[EV,EL,Aak];rw[Au k hlt hlt' hq];first|exact⟨rfl,rfl⟩|rfl
  ·simp only[EV,EL,Aao];refine⟨(k+1,L++[c l[k],c' m[k]]),⟨hlt,fun i g1 g2 hik=>?_⟩,by simp only;omega,⟨?_,rfl,rfl⟩⟩
   ·rcases Aas i k with g|g
    ·exact ht i g1 g2 g
    ·have:i=k:=by simp only at hik;omega
     subst this;exact hq
   ·rw[wN (by omega)];simp[gW,gM]
 ·have hge:k=l.length:=by simp at hge;omega
  simp only[EV,EL];refine⟨rfl,?_⟩;rw[Ch hl (fun i g1 g2=>ht i g1 g2 (by omega))]
def Fq(sz:Nat)(agg:Bool)(ek:EK):List O:=[⟨(some 16),none,.mov (.t 0)⟩,
 ⟨(some 17),none,.mov (.t 5)⟩,
 ⟨(some 18),none,.idxs sz (.t 16) (.t 17)⟩,
 ⟨(some 19),none,.load sz agg (.t 18)⟩,
 ⟨(some 20),none,.mov (.t 1)⟩,
 ⟨(some 21),none,.mov (.t 5)⟩,
 ⟨(some 22),none,.idxs sz (.t 20) (.t 21)⟩,
 ⟨(some 23),none,.load sz agg (.t 22)⟩,
 ⟨(some 24),none,.bin .neq ek (.t 19) (.t 23)⟩]
def FF:List (List Nat):=[[],[],[0,1],[2],[],[],[4,5],[6],[3,7]]
theorem Ls(sz:Nat)(agg:Bool)(ek:EK)(gl:Gl)(Q:AE→St→Prop)(s:St):aw P Θ Γ gl (.regD (Fq sz agg ek) FF) Q s=jS P Γ gl [⟨(some 16),none,.mov (.t 0)⟩,
 ⟨(some 17),none,.mov (.t 5)⟩,
 ⟨(some 18),none,.idxs sz (.t 16) (.t 17)⟩,
 ⟨(some 19),none,.load sz agg (.t 18)⟩,
 ⟨(some 20),none,.mov (.t 1)⟩,
 ⟨(some 21),none,.mov (.t 5)⟩,
 ⟨(some 22),none,.idxs sz (.t 20) (.t 21)⟩,
 ⟨(some 23),none,.load sz agg (.t 22)⟩,
 ⟨(some 24),none,.bin .neq ek (.t 19) (.t 23)⟩] [⟨(some 16),none,.mov (.t 0)⟩,
 ⟨(some 17),none,.mov (.t 5)⟩,
 ⟨(some 18),none,.idxs sz (.t 16) (.t 17)⟩,
 ⟨(some 19),none,.load sz agg (.t 18)⟩,
 ⟨(some 20),none,.mov (.t 1)⟩,
 ⟨(some 21),none,.mov (.t 5)⟩,
 ⟨(some 22),none,.idxs sz (.t 20) (.t 21)⟩,
 ⟨(some 23),none,.load sz agg (.t 22)⟩,
 ⟨(some 24),none,.bin .neq ek (.t 19) (.t 23)⟩] (Q .normal) s:=Tr (by kernel_rfl) gl Q s
def Mi(sz:Nat)(agg:Bool)(ek:EK):C:=.seq (.reg [⟨(some 4),none,.mov (.c (.bool false))⟩]) (.seq (.seq (.reg [⟨(some 6),none,.mov (.t 0)⟩,
 ⟨(some 7),none,.len false (.t 6)⟩,
 ⟨(some 8),none,.mov (.t 1)⟩,
 ⟨(some 9),none,.len false (.t 8)⟩,
 ⟨(some 10),none,.bin .neq (.num) (.t 7) (.t 9)⟩]) (.cond (.t 10) (.seq (.reg [⟨(some 4),none,.mov (.c (.bool false))⟩]) (.ret)) (.skip))) (.seq (.seq (.reg [⟨(some 11),none,.mov (.t 0)⟩,
 ⟨(some 12),none,.len false (.t 11)⟩,
 ⟨(some 13),none,.mov (.c (.int .i64 0))⟩]) (.block 0 (.loop (.seq (.reg [⟨(some 14),none,.bin .lss (.num) (.t 13) (.t 12)⟩]) (.seq (.cond (.t 14) (.skip) (.exit 0)) (.seq (.block 1 (.seq (.reg [⟨(some 15),none,.mov (.t 13)⟩,
 ⟨(some 5),none,.mov (.t 15)⟩]) (.seq (.regD (Fq sz agg ek) FF) (.cond (.t 24) (.seq (.reg [⟨(some 4),none,.mov (.c (.bool false))⟩]) (.ret)) (.skip))))) (.reg [⟨(some 25),none,.bin .add (.num) (.t 13) (.c (.int .i64 1))⟩,
 ⟨(some 13),none,.mov (.t 25)⟩]))))))) (.seq (.reg [⟨(some 4),none,.mov (.c (.bool true))⟩]) (.ret))))
theorem xY{α:Type}[DecidableEq α](tab:iO P Θ)(hm:P.follows .mixedOrders=true){f:FuncId}{sz:Nat}{agg:Bool}{ek:EK}
 (hE:Mh P Θ Γ f (Mi sz agg ek) [.t 4] [u,u,u,u,u,u,u,u,u,u,u,u,u,u,u,u,u,u,u,u,u,u,u,u])
 {β β':Bool} {l m:List α} {c c':α→List AV} (hb:l.length<1099511627776) (hx:∀x,MX agg sz (c x)) (hy:∀x,MX agg sz (c' x))
 (he:∀x y,fg .neq ek (UD agg (c x)) (UD agg (c' y))=some (.bool !decide (x=y))) {h:AH}:
 T P Γ f [.vs β sz false (l.map c),.vs β' sz false (m.map c')] h fun v h'=>v=.bool (decide (l=m))∧h'=h:=by
 have L0:=eY β sz false l c;have L1:=eY β' sz false m c';generalize e0:AV.vs β sz false (l.map c)=a0 at *;generalize e1:AV.vs β' sz false (m.map c')=a1 at *;refine hE (aC tab hm [] _ _ _ ?_);unfold Mi;simp only[EV,EL,L0,L1];refine bz (fun hne=>?_) (fun heq=>?_)
 ·simp only[EV,EL];refine⟨rfl,?_⟩;have hne:l.length≠m.length:=by intro e;rw[e]at hne;simp at hne
  rw[aW (fun e=>hne (by rw[e]))]
 have hl:l.length=m.length:=by simp at heq;omega
 simp only[EV,EL,L0];refine fD tab hm [] (fun k:Nat=>k≤l.length∧∀(i:Nat) (h1:i<l.length) (h2:i<m.length),i<k→l[i]=m[i]) (fun k=>l.length-k)
  (fun k=>⟨[a0,a1,.any,.any,.any,.any,.any,.any,.any,.any,.any,.any,.int .i64 l.length,.int .i64 k,.any,.any,.any,.any,.any,.any,.any,.any,.any,.any,.any,.any],[],h⟩) 0 ⟨by omega,fun i _ _ h=>by omega⟩ ⟨by simp[gW,gM],rfl,rfl⟩ ?_
 rintro k ⟨hk,ht⟩;simp only[EV,EL];refine bz (fun hlt=>?_) (fun hge=>?_)
 ·have hlt:k<l.length:=by simpa using hlt
  have hlt':k<m.length:=by omega
  have i0:=fI (β:=β) (sz:=sz) (ex:=false) (ce:=c) hlt;have i1:=fI (β:=β') (sz:=sz) (ex:=false) (ce:=c') hlt';rw[e0]at i0;rw[e1]at i1;have hee:=he l[k] m[k];simp only[EV,EL,Ls,i0,i1,DZ (hx l[k]),DZ (hy m[k]),hee];by_cases hp:l[k]=m[k]
  ·simp only[EV,EL,hp,decide_true,Aao];refine⟨k+1,⟨hlt,fun i g1 g2 hik=>?_⟩,by omega,⟨?_,rfl,rfl⟩⟩
   ·rcases Aas i k with g|g
    ·exact ht i g1 g2 g
    ·have:i=k:=by omega
     subst this;exact hp
   ·rw[wN (by omega)];simp[gW,gM]
  ·simp only[EV,EL,aW hp,Aak];refine⟨rfl,?_⟩;rw[aW (fun e=>hp (by subst e;rfl))]
 ·have hge:k=l.length:=by simp at hge;omega
  simp only[EV,EL];refine⟨rfl,?_⟩;rw[aR (List.ext_getElem hl fun i g1 g2=>ht i g1 g2 (by omega))]
def D5(sz bytes:Nat)(z:List AV):C:=.seq (.reg [⟨(some 2),none,.mov (.c (.nils))⟩]) (.seq (.seq (.reg [⟨(some 3),none,.mov (.t 0)⟩,
 ⟨(some 4),none,.bin .eql (.nils) (.t 3) (.c (.nils))⟩]) (.cond (.t 4) (.seq (.reg [⟨(some 2),none,.mov (.c (.nils))⟩]) (.ret)) (.skip))) (.seq (.reg [⟨(some 5),none,.bsl sz 0 z []⟩,
 ⟨(some 6),none,.mov (.t 0)⟩,
 ⟨(some 7),none,.app sz bytes z false (.t 5) (.t 6)⟩,
 ⟨(some 2),none,.mov (.t 7)⟩]) (.ret)))
def Jd(s:St)(sz len:Nat):Option (List AV)→AR|some cs=>if cs.all bM then .val (.gs s.heap.length 0 0 len len sz true) (s.push cs)else .stuck|none=>.stuck
theorem IV(gl:Bool)(s:St)(sz len:Nat)(z:List AV)(ps:List (Nat×X)):step Γ gl s (.bsl sz len z ps)=Jd s sz len (mg (List.replicate len z).flatten (ps.map fun p=>(p.1*sz,sz,s.eval Γ p.2))):=by
 simp only[step,Jd];cases mg _ _<;>rfl
def AI(s:St)(sz bytes:Nat)(x:AV):Option (List AV)→Option Nat→Option Nat→AR
 | some ys,some n,some m=>.JA (sS s sz bytes x ys n m)
 | _,_,_=>.stuck
theorem F9(gl:Bool)(s:St)(sz bytes:Nat)(z:List AV)(str:Bool)(x y:X):step Γ gl s (.app sz bytes z str x y)=AI s sz bytes (s.eval Γ x) (iU s sz str (s.eval Γ y)) (lenOf (s.eval Γ y)) (lenOf (s.eval Γ x)):=by
 simp only[step,AI];rfl
theorem zh{l:List (List AV)}(h:∀x∈l,x.all bM=true):l.flatten.all bM=true:=by
 rw[Aay,Aah];exact h
theorem yx{α:Type}{c:α→List AV}{cd:α→List CD}(h:∀x,c x=(cd x).map (CD.av false))(l:List α):(l.map c).flatten=(l.map cd).flatten.map (CD.av false):=by
 have:c=fun x=>(cd x).map (CD.av false):=funext h;subst this;simp[List.map_flatten,Function.comp_def]
theorem xS{α:Type}(tab:iO P Θ)(hm:P.follows .mixedOrders=true){f:FuncId}{sz bytes:Nat}{z:List AV}(hE:Tw P Θ Γ f (D5 sz bytes z) [.t 2] [u,u,u,u,u,u,u])
 {β:Bool} {l:List α} {c:α→List AV} {cd:α→List CD} (h0:0<sz) (hb:l.length*(sz+bytes)≤aU) (hd:∀x,(cd x).length=sz∧(cd x).all CD.flat=true) (hcd:∀x,c x=(cd x).map (CD.av false)) {h:AH}:
 T P Γ f [.vs β sz false (l.map c)] h (aX h [.c (.sl sz (l.map cd))]):=by
 have hcl:∀x,(c x).length=sz:=fun x=>by rw[hcd];simpa using(hd x).1
 have hcn:∀x,(c x).all bM=true:=fun x=>by rw[hcd,List.all_map,Aah];intro d _;exact d.bM false
 have hnil:T P Γ f [.nils] h (aX h [.c (.sl sz [])]):=by
  refine T.xC (hE (aC tab hm [] _ _ _ ?_));unfold D5;simp only[EV,EL];have:fg .eql .nils .nils .nils=some (.bool true):=rfl;simp only[EV,EL,this];exact⟨rfl,[],[],by simp,.nil _,by simp,by simp⟩
 cases l with
 | nil=>
  simp only[Aav];refine T.Va (pre:=[]) (post:=[]) hnil (fun a cp=>?_);refine T.xC (hE (aC tab hm [] _ _ _ ?_));unfold D5;have e1:fg .eql .nils (.opq (.slice (some a) 0 cp)) .nils=some (.bool false):=rfl;have app:∀e:List AV,sS ⟨e,[],h++[some (0,[])]⟩ sz bytes (.gs h.length 0 0 0 0 sz true) [] 0 0=some (.gs h.length 0 0 0 0 sz true,⟨e,[],h++[some (0,[])]⟩):=by
   intro e;unfold sS;rw[if_neg (by omega),if_neg (by omega)];simp[eQ,c8]
  simp only[EV,EL,AaC,e1,IV,Aau,Aaz,Aav,mg,Jd,Aar,if_true,F9,iU,St.b6,lenOf,AI,app];refine⟨rfl,[some (0,[])],[h.length],rfl,?_,by simp,by simp⟩;exact b9.sl_mk (xs:=[]) (zas:=[]) (tail:=[]) (by simp[eQ]) (by simp) (by simp) (by simp) rfl
 | cons x l=>
  refine T.xC (hE (aC tab hm [] _ _ _ ?_));unfold D5;have e1:fg .eql .nils (.vs β sz false ((x::l).map c)) .nils=some (.bool false):=rfl;have hfl:((x::l).map c).flatten.length=(x::l).length*sz:=j8 (fun y _=>hcl y);have hno:((x::l).map c).flatten.all bM=true:=zh (fun y hy=>by obtain⟨w,_,rfl⟩:=Aaw.1 hy;exact hcn w);have L1:lenOf (.vs β sz false ((x::l).map c))=some (x::l).length:=by simp[lenOf]
  have L2:∀s:St,iU s sz false (.vs β sz false ((x::l).map c))=some ((x::l).map c).flatten:=fun s=>by simp[iU,St.b6]
  have hln:(x::l).length=l.length+1:=rfl;have hxs:=yx hcd (x::l);generalize (x::l).map c=xs at *;have app:∀e:List AV,sS ⟨e,[],h++[some (0,[])]⟩ sz bytes (.gs h.length 0 0 0 0 sz true) xs.flatten (x::l).length 0=some (.gs h.length 1 0 (x::l).length (x::l).length sz false,⟨e,[],h++[some (1,xs.flatten)]⟩):=by
   intro e;unfold sS;rw[if_neg (by omega),if_neg (by rw[Aax];omega)];simp only[eQ,Aab,if_true,hno];rw[if_neg (by omega)];simp[sub]
  simp only[EV,EL,e1,IV,Aau,Aaz,Aav,mg,Jd,Aar,if_true,F9,L1,L2,show ∀b g off cap:Nat,∀ex,lenOf (.gs b g off 0 cap sz ex)=some 0 from fun _ _ _ _ _=>rfl,AI,app];refine⟨rfl,[some (1,xs.flatten)],[h.length],rfl,?_,by simp,by simp⟩;have:=b9.sl_mk (xs:=(x::l).map cd) (sz:=sz) (zas:=xs.flatten) (tail:=[]) (h:=h++[some (1,xs.flatten)]) (b:=h.length) (g:=1) (cap:=(x::l).length) (ex:=false) (fp:=[]) (by rw[Aai];exact eQ _ _) (fun m hm=>by obtain⟨y,_,rfl⟩:=Aaw.1 hm;exact(hd y).1) (by simp) (by simp)
   (by rw[hxs];exact pI false (by rw[Aay,Aah];intro m hm;obtain⟨y,_,rfl⟩:=Aaw.1 hm;exact(hd y).2))
  simpa using this
end
end Go.AM
namespace Go.AM
section
variable {P:Program} {Θ:ub} {Γ:bG}
def G7:List AV→Nat→List AV→Option (List AV)
 | z,0,[]=>some z
 | _::z,0,x::vs=>(G7 z 0 vs).map (x :: ·)
 | a::z,n+1,vs=>(G7 z n vs).map (a :: ·)
 | [],0,_::_=>none
 | [],_+1,_=>none
theorem B7:∀(z:List AV) (o:Nat) (vs z':List AV),G7 z o vs=some z'→o+vs.length≤z.length∧z'=c8 z o vs
 | z,0,[],z',h=>by simp[G7]at h;subst h;simp[c8]
 | a::z,0,x::vs,z',h=>by
  simp only[G7,Aat]at h;obtain⟨y,h1,rfl⟩:=h;obtain⟨h2,rfl⟩:=B7 z 0 vs y h1;refine⟨by simp at h2 ⊢;omega,?_⟩;simp[c8]
 | a::z,n+1,vs,z',h=>by
  simp only[G7,Aat]at h;obtain⟨y,h1,rfl⟩:=h;obtain⟨h2,rfl⟩:=B7 z n vs y h1;refine⟨by simp;omega,?_⟩;simp[c8,show n+1+vs.length=(n+vs.length)+1 by omega]
 | [],0,_::_,_,h=>by simp[G7]at h
 | [],_+1,_,_,h=>by simp[G7]at h
theorem Wx(z:List AV):G7 z 0 []=some z:=by cases z<;>rfl
theorem UI(a x:AV)(z vs:List AV):G7 (a::z) 0 (x::vs)=(G7 z 0 vs).map (x :: ·):=rfl
theorem Z7(a:AV)(z vs:List AV)(n:Nat):G7 (a::z) (n+1) vs=(G7 z n vs).map (a :: ·):=rfl
def ovK(f:List AV→Option (List AV))(alt:Option (List AV)):Option (List AV)→Option (List AV)|some z=>f z|none=>alt
def A2(z:List AV)(off:Nat)(cs:List AV)(rest:List (Nat×Nat×AV)):Option (List AV):=if off+cs.length≤z.length then mg (c8 z off cs) rest else none
def Hv(z:List AV)(off size:Nat)(rest:List (Nat×Nat×AV)):Option (List AV)→Option (List AV)
 | some cs=>if cs.length=size then A2 z off cs rest else none
 | none=>none
theorem sO(z:List AV):mg z []=some z:=rfl
theorem ZX(z:List AV)(off size:Nat)(v:AV)(rest:List (Nat×Nat×AV)):mg z ((off,size,v)::rest)=Hv z off size rest (cellsOf v):=by
 simp only[mg,Hv,A2];cases cellsOf v<;>rfl
theorem Zf(z:List AV)(off size:Nat)(rest:List (Nat×Nat×AV))(cs:List AV):Hv z off size rest (some cs)=if cs.length=size then ovK (fun z'=>mg z' rest) (A2 z off cs rest) (G7 z off cs)else none:=by
 simp only[Hv];split
 ·cases h:G7 z off cs with
  | none=>rfl
  | some z'=>
   obtain⟨h1,h2⟩:=B7 _ _ _ _ h;simp only[A2,if_pos h1,ovK,h2]
 ·rfl
theorem Pl(f:List AV→Option (List AV))(alt:Option (List AV))(z:List AV):ovK f alt (some z)=f z:=rfl
theorem ji(gl:Bool)(s:St)(z:List AV)(ps:List (Nat×Nat×X)):step Γ gl s (.build z ps)=.nD s ((mg z (ps.map fun p=>(p.1,p.2.1,s.eval Γ p.2.2))).map .agg):=rfl
theorem sI{α β:Type}(f:α→β):List.map f []=[]:=rfl
theorem Z4{α β:Type}(f:α→β)(x:α)(xs:List α):List.map f (x::xs)=f x::List.map f xs:=rfl
theorem ae(a b:Int):(a == b)=decide (a=b):=by by_cases h:a=b<;>simp[h]
theorem lI(a b a' b':Int):fg .neq (.agg [.int .i64,.int .i64]) (.agg [.int .i64 a,.int .i64 b]) (.agg [.int .i64 a',.int .i64 b'])=some (.bool !decide (a=a'∧b=b')):=by
 simp[fg,sY,uO,xy,Aaj,ae]
theorem dV(a b a' b':Int):fg .eql (.agg [.int .i64,.int .i64]) (.agg [.int .i64 a,.int .i64 b]) (.agg [.int .i64 a',.int .i64 b'])=some (.bool (decide (a=a'∧b=b'))):=by
 simp[fg,sY,uO,xy,Aaj,ae]
theorem pb(a b c a' b' c':Int):fg .neq (.agg [.int .i64,.int .i64,.int .i64]) (.agg [.int .i64 a,.int .i64 b,.int .i64 c]) (.agg [.int .i64 a',.int .i64 b',.int .i64 c'])=some (.bool !decide (a=a'∧b=b'∧c=c')):=by
 simp[fg,sY,uO,xy,Aaj,ae]
theorem eU(a b c a' b' c':Int):fg .eql (.agg [.int .i64,.int .i64,.int .i64]) (.agg [.int .i64 a,.int .i64 b,.int .i64 c]) (.agg [.int .i64 a',.int .i64 b',.int .i64 c'])=some (.bool (decide (a=a'∧b=b'∧c=c'))):=by
 simp[fg,sY,uO,xy,Aaj,ae]
theorem qK{α:Type}{l:List α}{P:α→Prop}{k:Nat}{hk:k<l.length}(h:∀(i:Nat) (hi:i<l.length),i<k→P l[i])(hp:P l[k]):∀(i:Nat) (hi:i<l.length),i<k+1→P l[i]:=by
 intro i hi hik;rcases Aas i k with g|g
 ·exact h i hi g
 ·have:i=k:=by omega
  subst this;exact hp
def Ju(p:AV)(off:Nat):AV:=match p with|.gp b g o=>.gp b g (o+off)|.ip β cs=>.ip β (cs.drop off)|x=>x
structure Ptr (H:AH) (p:AV) (cs:List AV):Prop where
 nil:isNil p=some false
 out:gq p=true
 n1:mo p=true
 fld:∀off,rH off p=some (Ju p off)
 rd:∀(e:List AV) (l:List (List AV)) (off n:Nat),off+(n+1)≤cs.length→(St.mk e l H).cells (Ju p off) (n+1)=sub cs off (n+1)
 rd0:∀(e:List AV) (l:List (List AV)) (n:Nat),n+1≤cs.length→(St.mk e l H).cells p (n+1)=sub cs 0 (n+1)
theorem Ptr.ip(H:AH)(β:Bool)(cs:List AV):Ptr H (.ip β cs) cs:=by
 refine⟨rfl,rfl,rfl,fun _=>rfl,fun e l off n hn=>?_,fun e l n hn=>rfl⟩;simp only[Ju,St.cells,sub,Aax,List.length_drop,List.drop_zero];rw[if_pos (by omega),if_pos hn]
theorem Ptr.gp{H:AH}{b g o:Nat}{cells cs:List AV}(h:cF H b=some (g,cells))(hc:∀n,n≤cs.length→∀off,off+n≤cs.length→sub cells (o+off) n=sub cs off n):Ptr H (.gp b g o) cs:=by
 refine⟨rfl,rfl,rfl,fun _=>rfl,fun e l off n hn=>?_,fun e l n hn=>?_⟩
 ·simp only[Ju,St.cells,h,Aab,if_true];exact hc _ (by omega) off hn
 ·simp only[St.cells,h,Aab,if_true];simpa using hc _ hn 0 (by omega)
theorem Ptr.Ud{H:AH}{b g:Nat}{cs:List AV}(h:cF H b=some (g,cs)):Ptr H (.gp b g 0) cs:=Ptr.gp h (fun n _ off _=>by rw[Aax])
inductive Wk:AV→AV→Prop
 | rfl (x:AV):Wk x x
 | any (x:AV):Wk x .any
 | nil (β:Bool) (sz:Nat) (ex:Bool):Wk .nils (.vs β sz ex [])
 | agg (xs ys:List AV) (h1:xs.length=ys.length) (h:∀(i:Nat) (x y:AV),xs[i]? = some x→ys[i]? = some y→Wk x y):Wk (.agg xs) (.agg ys)
def Ml:List AV→List AV→Prop
 | [],[]=>True
 | x::xs,y::ys=>Wk x y∧Ml xs ys
 | _,_=>False
theorem Ml.spec:∀{xs ys:List AV},Ml xs ys→xs.length=ys.length∧∀(i:Nat) (x y:AV),xs[i]? = some x→ys[i]? = some y→Wk x y
 | [],[],_=>⟨Eq.refl _,fun i x y h=>by simp at h⟩
 | x::xs,y::ys,h=>by
  obtain⟨h1,h2⟩:=Ml.spec h.2;refine⟨by simp[h1],fun i a b ha hb=>?_⟩;cases i with
  | zero=>simp at ha hb;subst ha hb;exact h.1
  | succ i=>exact h2 i a b (by simpa using ha) (by simpa using hb)
 | [],_::_,h=>h.elim
 | _::_,[],h=>h.elim
theorem Ml.refl:∀(xs:List AV),Ml xs xs|[]=>trivial|x::xs=>⟨.rfl x,Ml.refl xs⟩
theorem Wk.RV{x y:AV}(h:Wk x y){ρ:j9}{ls:List Nat}:∀{v:Value},RV ρ ls x v→RV ρ ls y v:=by
 induction h with
 | rfl=>exact fun r=>r
 | any=>exact fun _=>.any _ _
 | nil β sz ex=>intro v r;cases r;exact .vsn _ _ _ _
 | agg xs ys h1 h ih=>
  intro v r;cases r with
  | agg _ _ vs k1 kr=>
   refine .agg _ _ _ (by omega) (fun i y hy=>?_);have hlt:=aL hy;exact ih i _ y (Aac (by omega)) hy (kr i _ (Aac (by omega)))
theorem Ml.kX{xs ys:List AV}(h:Ml xs ys){ρ:j9}{ls:List Nat}{vs:List Value}(r:kX ρ ls xs vs):kX ρ ls ys vs:=by
 obtain⟨h1,h2⟩:=h.spec;refine⟨by rw[←h1];exact r.1,fun i y hy=>?_⟩;have hlt:=aL hy;exact(h2 i _ y (Aac (by omega)) hy).RV (r.2 i _ (Aac (by omega)))
theorem al.vD{f:FuncId}{args args':List AV}{s:St}{K:AV→St→Prop}(h:Ml args args')(t:al P Γ f args' s K):al P Γ f args s K:=
 fun ρ ls w cargs m g ra=>t ρ ls w cargs m g (h.kX ra)
theorem T.vD{f:FuncId}{args args':List AV}{h:AH}{Q:AV→AH→Prop}(hw:Ml args args')(t:T P Γ f args' h Q):T P Γ f args h Q:=
 ⟨t.1,fun ρ w cargs m g ra=>t.2 ρ w cargs m g (hw.kX ra)⟩
def TO(s:St)(v:AV):Option Bool→AR|some false=>.val v s|_=>.stuck
theorem FB(gl:Bool)(s:St)(x:X):step Γ gl s (.nilchk x)=TO s (s.eval Γ x) (isNil (s.eval Γ x)):=by
 simp only[step,TO];split<;>simp_all
theorem P9(s:St)(v:AV):TO s v (some false)=.val v s:=rfl
theorem Fa(β:Bool)(cs:List AV):isNil (.ip β cs)=some false:=rfl
theorem Gp(b g o:Nat):isNil (.gp b g o)=some false:=rfl
theorem FG(i o:Nat):isNil (.lp i o)=some false:=rfl
theorem N7:fg .eql .nilp .nilp .nilp=some (.bool true):=rfl
theorem Pw(β:Bool)(cs:List AV):fg .eql .nilp (.ip β cs) .nilp=some (.bool false):=rfl
theorem RP(b g o:Nat):fg .eql .nilp (.gp b g o) .nilp=some (.bool false):=rfl
theorem Pa:fg .neq .nilp .nilp .nilp=some (.bool false):=rfl
theorem O7(β:Bool)(cs:List AV):fg .neq .nilp (.ip β cs) .nilp=some (.bool true):=rfl
theorem Qj(b g o:Nat):fg .neq .nilp (.gp b g o) .nilp=some (.bool true):=rfl
theorem Ot(β:Bool)(cs:List AV):cellsOf (.ip β cs)=some [.ip β cs]:=rfl
theorem Qr(b g o:Nat):cellsOf (.gp b g o)=some [.gp b g o]:=rfl
theorem Qo(β:Bool)(sz:Nat)(ex:Bool)(xs:List (List AV)):cn (.vs β sz ex xs)=true:=rfl
theorem OV(β:Bool)(cs:List AV):cn (.ip β cs)=true:=rfl
theorem Sw(b g o:Nat):cn (.gp b g o)=true:=rfl
theorem P0:cn .nilp=true:=rfl
theorem NS:cn .nils=true:=rfl
end
theorem EF:type_of% (And.intro @Wx (And.intro @UI (And.intro @Z7 (And.intro @sO (And.intro @ZX (And.intro @Zf (And.intro @Pl (And.intro @ji (And.intro @sI (And.intro @Z4 (And.intro @IV (((((And.intro @FB (And.intro @P9 (And.intro @Fa (And.intro @Gp (And.intro @FG (And.intro @N7 (And.intro @Pw (And.intro @RP (And.intro @Pa (And.intro @O7 (And.intro @Qj (And.intro @Ot (And.intro @Qr (And.intro @Qo (And.intro @OV (And.intro @Sw (And.intro @P0 (@NS))))))))))))))))))))))))))))))))):=And.intro @Wx (And.intro @UI (And.intro @Z7 (And.intro @sO (And.intro @ZX (And.intro @Zf (And.intro @Pl (And.intro @ji (And.intro @sI (And.intro @Z4 (And.intro @IV (((((And.intro @FB (And.intro @P9 (And.intro @Fa (And.intro @Gp (And.intro @FG (And.intro @N7 (And.intro @Pw (And.intro @RP (And.intro @Pa (And.intro @O7 (And.intro @Qj (And.intro @Ot (And.intro @Qr (And.intro @Qo (And.intro @OV (And.intro @Sw (And.intro @P0 (@NS))))))))))))))))))))))))))))))))
theorem EZ:type_of% (And.intro EV (And.intro EL (And.intro EB (And.intro EF (And.intro @Aae (And.intro @Aao (And.intro @Aak (And.intro @if_true.{1} (And.intro @if_false.{1} (@Aab.{0,0})))))))))):=And.intro EV (And.intro EL (And.intro EB (And.intro EF (And.intro @Aae (And.intro @Aao (And.intro @Aak (And.intro @if_true.{1} (And.intro @if_false.{1} (@Aab.{0,0})))))))))
end Go.AM
namespace Go.AM
theorem lc4(e:List AV)(L zs:List (List AV))(a b d e z:List AV)(h:AH)(off n0:Nat):(St.mk e (L++a::b::d::e::z::zs) h).cells (.lp (L.length+4) off) n0=sub z off n0:=dZ (i:=4) rfl
theorem sc4(e:List AV)(L zs:List (List AV))(a b d e z:List AV)(h:AH)(off:Nat)(vs:List AV):(St.mk e (L++a::b::d::e::z::zs) h).store (.lp (L.length+4) off) vs=qp (fun z'=>⟨e,L++a::b::d::e::z'::zs,h⟩) (lK ⟨e,L++a::b::d::e::z::zs,h⟩ (.lp (L.length+4) off) vs) (uh z off vs):=
 iv fun _ hs=>eF (i:=4) rfl hs
theorem ll4(L:List (List AV))(a b d e:List AV):(L++[a,b,d,e]).length=L.length+4:=by simp
theorem la4(L:List (List AV))(a b d e z:List AV):(L++[a,b,d,e])++[z]=L++[a,b,d,e,z]:=by simp
theorem lc5(e:List AV)(L zs:List (List AV))(a b d e f z:List AV)(h:AH)(off n0:Nat):(St.mk e (L++a::b::d::e::f::z::zs) h).cells (.lp (L.length+5) off) n0=sub z off n0:=dZ (i:=5) rfl
theorem sc5(e:List AV)(L zs:List (List AV))(a b d e f z:List AV)(h:AH)(off:Nat)(vs:List AV):(St.mk e (L++a::b::d::e::f::z::zs) h).store (.lp (L.length+5) off) vs=qp (fun z'=>⟨e,L++a::b::d::e::f::z'::zs,h⟩) (lK ⟨e,L++a::b::d::e::f::z::zs,h⟩ (.lp (L.length+5) off) vs) (uh z off vs):=
 iv fun _ hs=>eF (i:=5) rfl hs
theorem ll5(L:List (List AV))(a b d e f:List AV):(L++[a,b,d,e,f]).length=L.length+5:=by simp
theorem la5(L:List (List AV))(a b d e f z:List AV):(L++[a,b,d,e,f])++[z]=L++[a,b,d,e,f,z]:=by simp
theorem lc6(e:List AV)(L zs:List (List AV))(a b d e f g z:List AV)(h:AH)(off n0:Nat):(St.mk e (L++a::b::d::e::f::g::z::zs) h).cells (.lp (L.length+6) off) n0=sub z off n0:=dZ (i:=6) rfl
theorem sc6(e:List AV)(L zs:List (List AV))(a b d e f g z:List AV)(h:AH)(off:Nat)(vs:List AV):(St.mk e (L++a::b::d::e::f::g::z::zs) h).store (.lp (L.length+6) off) vs=qp (fun z'=>⟨e,L++a::b::d::e::f::g::z'::zs,h⟩) (lK ⟨e,L++a::b::d::e::f::g::z::zs,h⟩ (.lp (L.length+6) off) vs) (uh z off vs):=
 iv fun _ hs=>eF (i:=6) rfl hs
theorem ll6(L:List (List AV))(a b d e f g:List AV):(L++[a,b,d,e,f,g]).length=L.length+6:=by simp
theorem la6(L:List (List AV))(a b d e f g z:List AV):(L++[a,b,d,e,f,g])++[z]=L++[a,b,d,e,f,g,z]:=by simp
theorem lc7(e:List AV)(L zs:List (List AV))(a b d e f g i z:List AV)(h:AH)(off n0:Nat):(St.mk e (L++a::b::d::e::f::g::i::z::zs) h).cells (.lp (L.length+7) off) n0=sub z off n0:=dZ (i:=7) rfl
theorem sc7(e:List AV)(L zs:List (List AV))(a b d e f g i z:List AV)(h:AH)(off:Nat)(vs:List AV):(St.mk e (L++a::b::d::e::f::g::i::z::zs) h).store (.lp (L.length+7) off) vs=qp (fun z'=>⟨e,L++a::b::d::e::f::g::i::z'::zs,h⟩) (lK ⟨e,L++a::b::d::e::f::g::i::z::zs,h⟩ (.lp (L.length+7) off) vs) (uh z off vs):=
 iv fun _ hs=>eF (i:=7) rfl hs
theorem ll7(L:List (List AV))(a b d e f g i:List AV):(L++[a,b,d,e,f,g,i]).length=L.length+7:=by simp
theorem la7(L:List (List AV))(a b d e f g i z:List AV):(L++[a,b,d,e,f,g,i])++[z]=L++[a,b,d,e,f,g,i,z]:=by simp
theorem lc8(e:List AV)(L zs:List (List AV))(a b d e f g i j z:List AV)(h:AH)(off n0:Nat):(St.mk e (L++a::b::d::e::f::g::i::j::z::zs) h).cells (.lp (L.length+8) off) n0=sub z off n0:=dZ (i:=8) rfl
theorem sc8(e:List AV)(L zs:List (List AV))(a b d e f g i j z:List AV)(h:AH)(off:Nat)(vs:List AV):(St.mk e (L++a::b::d::e::f::g::i::j::z::zs) h).store (.lp (L.length+8) off) vs=qp (fun z'=>⟨e,L++a::b::d::e::f::g::i::j::z'::zs,h⟩) (lK ⟨e,L++a::b::d::e::f::g::i::j::z::zs,h⟩ (.lp (L.length+8) off) vs) (uh z off vs):=
 iv fun _ hs=>eF (i:=8) rfl hs
theorem ll8(L:List (List AV))(a b d e f g i j:List AV):(L++[a,b,d,e,f,g,i,j]).length=L.length+8:=by simp
theorem la8(L:List (List AV))(a b d e f g i j z:List AV):(L++[a,b,d,e,f,g,i,j])++[z]=L++[a,b,d,e,f,g,i,j,z]:=by simp
theorem lc9(e:List AV)(L zs:List (List AV))(a b d e f g i j k z:List AV)(h:AH)(off n0:Nat):(St.mk e (L++a::b::d::e::f::g::i::j::k::z::zs) h).cells (.lp (L.length+9) off) n0=sub z off n0:=dZ (i:=9) rfl
theorem sc9(e:List AV)(L zs:List (List AV))(a b d e f g i j k z:List AV)(h:AH)(off:Nat)(vs:List AV):(St.mk e (L++a::b::d::e::f::g::i::j::k::z::zs) h).store (.lp (L.length+9) off) vs=qp (fun z'=>⟨e,L++a::b::d::e::f::g::i::j::k::z'::zs,h⟩) (lK ⟨e,L++a::b::d::e::f::g::i::j::k::z::zs,h⟩ (.lp (L.length+9) off) vs) (uh z off vs):=
 iv fun _ hs=>eF (i:=9) rfl hs
theorem ll9(L:List (List AV))(a b d e f g i j k:List AV):(L++[a,b,d,e,f,g,i,j,k]).length=L.length+9:=by simp
theorem la9(L:List (List AV))(a b d e f g i j k z:List AV):(L++[a,b,d,e,f,g,i,j,k])++[z]=L++[a,b,d,e,f,g,i,j,k,z]:=by simp
theorem Yg(e:List AV)(L zs:List (List AV))(a b d e f g i j k m z:List AV)(h:AH)(off n0:Nat):(St.mk e (L++a::b::d::e::f::g::i::j::k::m::z::zs) h).cells (.lp (L.length+10) off) n0=sub z off n0:=dZ (i:=10) rfl
theorem Xr(e:List AV)(L zs:List (List AV))(a b d e f g i j k m z:List AV)(h:AH)(off:Nat)(vs:List AV):(St.mk e (L++a::b::d::e::f::g::i::j::k::m::z::zs) h).store (.lp (L.length+10) off) vs=qp (fun z'=>⟨e,L++a::b::d::e::f::g::i::j::k::m::z'::zs,h⟩) (lK ⟨e,L++a::b::d::e::f::g::i::j::k::m::z::zs,h⟩ (.lp (L.length+10) off) vs) (uh z off vs):=
 iv fun _ hs=>eF (i:=10) rfl hs
theorem VB(L:List (List AV))(a b d e f g i j k m:List AV):(L++[a,b,d,e,f,g,i,j,k,m]).length=L.length+10:=by simp
theorem la10(L:List (List AV))(a b d e f g i j k m z:List AV):(L++[a,b,d,e,f,g,i,j,k,m])++[z]=L++[a,b,d,e,f,g,i,j,k,m,z]:=by simp
theorem Z3(e:List AV)(L zs:List (List AV))(a b d e f g i j k m n z:List AV)(h:AH)(off n0:Nat):(St.mk e (L++a::b::d::e::f::g::i::j::k::m::n::z::zs) h).cells (.lp (L.length+11) off) n0=sub z off n0:=dZ (i:=11) rfl
theorem sc11(e:List AV)(L zs:List (List AV))(a b d e f g i j k m n z:List AV)(h:AH)(off:Nat)(vs:List AV):(St.mk e (L++a::b::d::e::f::g::i::j::k::m::n::z::zs) h).store (.lp (L.length+11) off) vs=qp (fun z'=>⟨e,L++a::b::d::e::f::g::i::j::k::m::n::z'::zs,h⟩) (lK ⟨e,L++a::b::d::e::f::g::i::j::k::m::n::z::zs,h⟩ (.lp (L.length+11) off) vs) (uh z off vs):=
 iv fun _ hs=>eF (i:=11) rfl hs
theorem Z6(L:List (List AV))(a b d e f g i j k m n:List AV):(L++[a,b,d,e,f,g,i,j,k,m,n]).length=L.length+11:=by simp
theorem X6(L:List (List AV))(a b d e f g i j k m n z:List AV):(L++[a,b,d,e,f,g,i,j,k,m,n])++[z]=L++[a,b,d,e,f,g,i,j,k,m,n,z]:=by simp
theorem ZJ(e:List AV)(L zs:List (List AV))(a b d e f g i j k m n o z:List AV)(h:AH)(off n0:Nat):(St.mk e (L++a::b::d::e::f::g::i::j::k::m::n::o::z::zs) h).cells (.lp (L.length+12) off) n0=sub z off n0:=dZ (i:=12) rfl
theorem Wh(e:List AV)(L zs:List (List AV))(a b d e f g i j k m n o z:List AV)(h:AH)(off:Nat)(vs:List AV):(St.mk e (L++a::b::d::e::f::g::i::j::k::m::n::o::z::zs) h).store (.lp (L.length+12) off) vs=qp (fun z'=>⟨e,L++a::b::d::e::f::g::i::j::k::m::n::o::z'::zs,h⟩) (lK ⟨e,L++a::b::d::e::f::g::i::j::k::m::n::o::z::zs,h⟩ (.lp (L.length+12) off) vs) (uh z off vs):=
 iv fun _ hs=>eF (i:=12) rfl hs
theorem US(L:List (List AV))(a b d e f g i j k m n o:List AV):(L++[a,b,d,e,f,g,i,j,k,m,n,o]).length=L.length+12:=by simp
theorem YS(L:List (List AV))(a b d e f g i j k m n o z:List AV):(L++[a,b,d,e,f,g,i,j,k,m,n,o])++[z]=L++[a,b,d,e,f,g,i,j,k,m,n,o,z]:=by simp
theorem lc13(e:List AV)(L zs:List (List AV))(a b d e f g i j k m n o p z:List AV)(h:AH)(off n0:Nat):(St.mk e (L++a::b::d::e::f::g::i::j::k::m::n::o::p::z::zs) h).cells (.lp (L.length+13) off) n0=sub z off n0:=dZ (i:=13) rfl
theorem Zr(e:List AV)(L zs:List (List AV))(a b d e f g i j k m n o p z:List AV)(h:AH)(off:Nat)(vs:List AV):(St.mk e (L++a::b::d::e::f::g::i::j::k::m::n::o::p::z::zs) h).store (.lp (L.length+13) off) vs=qp (fun z'=>⟨e,L++a::b::d::e::f::g::i::j::k::m::n::o::p::z'::zs,h⟩) (lK ⟨e,L++a::b::d::e::f::g::i::j::k::m::n::o::p::z::zs,h⟩ (.lp (L.length+13) off) vs) (uh z off vs):=
 iv fun _ hs=>eF (i:=13) rfl hs
theorem Xl(L:List (List AV))(a b d e f g i j k m n o p:List AV):(L++[a,b,d,e,f,g,i,j,k,m,n,o,p]).length=L.length+13:=by simp
theorem WW(L:List (List AV))(a b d e f g i j k m n o p z:List AV):(L++[a,b,d,e,f,g,i,j,k,m,n,o,p])++[z]=L++[a,b,d,e,f,g,i,j,k,m,n,o,p,z]:=by simp
theorem cK:type_of% (And.intro @lc4 (And.intro @sc4 (And.intro @ll4 (And.intro @la4 (And.intro @lc5 (And.intro @sc5 (And.intro @ll5 (And.intro @la5 (And.intro @lc6 (And.intro @sc6 (And.intro @ll6 (And.intro @la6 (And.intro @lc7 (And.intro @sc7 (And.intro @ll7 (And.intro @la7 (And.intro @lc8 (And.intro @sc8 (And.intro @ll8 (And.intro @la8 (And.intro @lc9 (And.intro @sc9 (And.intro @ll9 (And.intro @la9 (And.intro @Yg (And.intro @Xr (And.intro @VB (And.intro @la10 (And.intro @Z3 (And.intro @sc11 (And.intro @Z6 (And.intro @X6 (And.intro @ZJ (And.intro @Wh (And.intro @US (And.intro @YS (And.intro @lc13 (And.intro @Zr (And.intro @Xl (@WW)))))))))))))))))))))))))))))))))))))))):=(And.intro @lc4 (And.intro @sc4 (And.intro @ll4 (And.intro @la4 (And.intro @lc5 (And.intro @sc5 (And.intro @ll5 (And.intro @la5 (And.intro @lc6 (And.intro @sc6 (And.intro @ll6 (And.intro @la6 (And.intro @lc7 (And.intro @sc7 (And.intro @ll7 (And.intro @la7 (And.intro @lc8 (And.intro @sc8 (And.intro @ll8 (And.intro @la8 (And.intro @lc9 (And.intro @sc9 (And.intro @ll9 (And.intro @la9 (And.intro @Yg (And.intro @Xr (And.intro @VB (And.intro @la10 (And.intro @Z3 (And.intro @sc11 (And.intro @Z6 (And.intro @X6 (And.intro @ZJ (And.intro @Wh (And.intro @US (And.intro @YS (And.intro @lc13 (And.intro @Zr (And.intro @Xl (@WW))))))))))))))))))))))))))))))))))))))))
end Go.AM
namespace Go.AM
end Go.AM
namespace Go.AM
theorem eS{h:AH}{b:Nat}{x:Nat×List AV}(e:cF h b=some x):b<h.length:=aL (fC e)
theorem zi{h:AH}{b:Nat}{x:Nat×List AV}(e:cF h b=some x)(N:AH):cF (h++N) b=some x:=by
 have:=fC e;exact DE (by rw[List.getElem?_append_left (aL this)];exact this)
theorem A8{e e':List AV}{l l':List (List AV)}{h:AH}{a:AV}{n:Nat}{x:List AV}(ha:∀i o,a≠.lp i o)(hx:(St.mk e l h).cells a n=some x)(N:AH):(St.mk e' l' (h++N)).cells a n=some x:=by
 cases a<;>simp only[St.cells]at hx ⊢<;>try exact hx
 ·exact absurd rfl (ha _ _)
 ·rw[Option.bind_eq_some_iff]at hx;obtain⟨y,h1,h2⟩:=hx;rw[zi h1];exact h2
theorem No{p:AV}(h:mo p=true)(off:Nat):∀i o,Ju p off≠.lp i o:=by
 intro i o e;cases p<;>simp[Ju,mo]at e h
theorem Ptr.grow{H:AH}{p:AV}{cs:List AV}(h:Ptr H p cs)(N:AH):Ptr (H++N) p cs:=by
 refine⟨h.nil,h.out,h.n1,h.fld,fun e l off n hn=>?_,fun e l n hn=>?_⟩
 ·have h1:=h.rd e l off n hn;have:sub cs off (n+1)=some ((cs.drop off).take (n+1)):=by simp only[sub];rw[if_pos hn]
  rw[this]at h1 ⊢;exact A8 (No h.n1 off) h1 N
 ·have h1:=h.rd0 e l n hn;have:sub cs 0 (n+1)=some ((cs.drop 0).take (n+1)):=by simp only[sub];rw[if_pos (by omega)]
  rw[this]at h1 ⊢;exact A8 (by intro i o e;subst e;have:=h.n1;simp[mo]at this) h1 N
end Go.AM
namespace Go.AM
section
variable {P:Program} {Θ:ub} {Γ:bG}
theorem ZR(f:RS→Option AV):AaA f []=some []:=rfl
theorem mm_c(f:RS→Option AV)(x:RS)(xs:List RS):AaA f (x::xs)=(f x).bind fun y=>(AaA f xs).map (y :: ·):=by
 rw[List.mapM_cons];cases f x<;>simp;cases AaA f xs<;>simp
theorem oo_t(vs:List AV):cY (.tup vs)=vs.all gq:=rfl
def CW(s:St)(i:Nat):AV→AR|.tup vs=>.nD s vs[i]? | _=>.stuck
theorem Iq(gl:Bool)(s:St)(x:X)(i:Nat):step Γ gl s (.extr x i)=CW s i (s.eval Γ x):=by
 simp only[step,CW];cases s.eval Γ x<;>rfl
theorem Sl(s:St)(v:AV)(vs:List AV):CW s 0 (.tup (v::vs))=.val v s:=rfl
theorem Oi(s:St)(a v:AV)(vs:List AV):CW s 1 (.tup (a::v::vs))=.val v s:=rfl
theorem R7(s:St)(a b v:AV)(vs:List AV):CW s 2 (.tup (a::b::v::vs))=.val v s:=rfl
end
theorem ER:type_of% (And.intro @ZR (And.intro @mm_c (And.intro @oo_t (And.intro @Iq (And.intro @Sl (And.intro @Oi (@R7))))))):=And.intro @ZR (And.intro @mm_c (And.intro @oo_t (And.intro @Iq (And.intro @Sl (And.intro @Oi (@R7))))))
end Go.AM
namespace Go.AM
def yT{α:Type}(c:α→Int):List α→Int
 | []=>0
 | x::r=>c x+yT c r
theorem FD{pre cs post vs:List AV}{off:Nat}(h:off+vs.length≤cs.length):c8 (pre++(cs++post)) (pre.length+off) vs=pre++(c8 cs off vs++post):=by
 simp only[c8];rw[List.take_append,List.take_of_length_le (by omega),show pre.length+off-pre.length=off by omega,List.take_append_of_le_length (by omega)];rw[List.drop_append,Aaq (by omega),AaC,show pre.length+off+vs.length-pre.length=off+vs.length by omega,List.drop_append_of_le_length h];simp
theorem BT{H H':AH}{b:Nat}{x:Nat×List AV}(h:cF H b=some x)(e:H'[b]? = H[b]?):cF H' b=some x:=by rw[bc e];exact h
end Go.AM
namespace Go.AM
theorem aM.pick{H:AH}{a:AV}{d:CD}:∀{A B:List AV} {D E:List CD} {fp:List Nat},A.length=D.length→aM H (A++a::B) (D++d::E) fp→fp.Nodup→
 ∃gi,b9 H a d gi∧gi.Nodup∧(∀c∈gi,c∈fp)∧∀(H2:AH) (d':CD),(∀c,c∉gi→H2[c]? = H[c]?)→b9 H2 a d' gi→aM H2 (A++a::B) (D++d'::E) fp
 | [],B,[],E,fp,_,⟨f1,f2,e,o1,o2⟩,nd=>by
  subst e;have hd:=Aam.1 nd;exact⟨f1,o1,hd.1,fun c h=>by simp[h],fun H2 d' hf o=>⟨f1,f2,rfl,o,o2.frame fun c hc=>hf c (fun h=>hd.2.2 c h c hc rfl)⟩⟩
 | x::A,B,y::D,E,fp,hl,⟨f1,f2,e,o1,o2⟩,nd=>by
  subst e;have hd:=Aam.1 nd;obtain⟨gi,q1,q2,q3,q4⟩:=aM.pick (by simpa using hl) o2 hd.2.1;exact⟨gi,q1,q2,fun c h=>by simp[q3 c h],fun H2 d' hf o=>⟨f1,f2,rfl,o1.frame fun c hc=>hf c (fun h=>hd.2.2 c hc c (q3 c h) rfl),q4 H2 d' hf o⟩⟩
end Go.AM
