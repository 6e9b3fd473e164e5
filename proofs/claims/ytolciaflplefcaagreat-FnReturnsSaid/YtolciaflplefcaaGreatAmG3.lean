import Derived.Test.YtolciaflplefcaaGreatAmG2
import Derived.Laws.BytesString
set_option linter.unusedVariables false
set_option linter.unusedSimpArgs false
open List renaming getElem?_eq_getElem→Aaa,getElem?_map→Aab,eq_nil_of_length_eq_zero→Aae,eq_of_mem_replicate→Aaf,all_eq_true→Aag,mem_flatten→Aaj,mapM_cons→Aak,map_cons→Aal
open Option renaming map_some→Aac,map_eq_some_iff→Aah,bind_some→Aai
open Nat renaming le_refl→Aad,lt_or_ge→Aam
namespace Go.AM
section
variable {P:Program} {Γ:bG} {ρ:j9} {ls:List Nat} {s:St} {a:Act} {w:World}
theorem T0(mem:RH ρ ls s.loc s.heap w){src dst e:TypeId}(hs:P.underlying src=some .string)(hd:P.underlying dst=some (.slice e))(he:P.underlying e=some (.int .u8))(v:ByteArray):
 ∃cv w' ρ',(convert src dst (.string v)).run P w=.ok cv w'∧RV ρ' ls (.gs s.heap.length 0 0 v.size v.size 1 false) cv∧
  RH ρ' ls (s.push (j7 v)).loc (s.push (j7 v)).heap w'∧ua ρ ls s.heap w ρ' ls (s.push (j7 v)).heap w':=by
 generalize hq:Question.appendCap v.size 0 e=q;have hforced:q.forced=false:=by subst hq;rfl
 have hcut:∀x,v.size≤q.cut x:=by intro x;subst hq;simp[Question.cut]
 generalize hN:q.cut (w.tape w.drawn q)=N;have hN':v.size≤N:=by rw[←hN];exact hcut _
 let arr:Array Value:=v.data.map (fun b=>Value.int .u8 b.toNat)++Array.replicate (N-v.size) (.int .u8 0)
 have harr:arr.size=N:=by
  show(v.data.map (fun b=>Value.int .u8 b.toNat)++Array.replicate (N-v.size) (Value.int .u8 0)).size=N
  have hvs:v.data.size=v.size:=rfl;simp;omega
 let w1:World:=(w.drew).alloc (.cells arr e)
 have nb1:uq w (.cells arr e (0,0)) w1:=⟨(uq.push w _).sz,(uq.push w _).old,(uq.push w _).new,rfl,rfl⟩
 let w2:World:=w1.freeze { block:=w.heap.size,off:=arr.size } 1
 have nb2:uq w (.cells arr e (arr.size,arr.size+1)) w2:=by
  refine⟨by simp[w2,World.freeze,nb1.sz],fun c hc=>?_,?_,rfl,rfl⟩
  ·simp only[w2,World.freeze];rw[if_neg (by omega)];simp only[Array.getElem?_modify];rw[if_neg (by omega)];exact nb1.old c hc
  ·simp only[w2,World.freeze];rw[if_neg (by omega)];simp only[Array.getElem?_modify,if_true,nb1.new,Aac];simp
 have hrv:kX ρ [] (j7 v) (v.data.toList.map fun b=>Value.int .u8 b.toNat):=by
  refine⟨by simp[j7],fun i x hx=>?_⟩;simp only[j7,Aab]at hx;cases hb:v.data.toList[i]? with
  | none=>simp[hb]at hx
  | some b=>
   simp[hb]at hx;subst hx;rw[List.getD_eq_getElem?_getD,Aab,hb];exact .int _ _ _
 have hlies:pr ρ [] arr 0 (j7 v):=pr.ofPrefix hrv (rest:=List.replicate (N-v.size) (.int .u8 0)) (by simp[arr]);have hres:=mem.AX nb2 (.inr (Aad _)) (by rw[harr];simpa[j7]using hN') hlies;refine⟨.slice (some ⟨w.heap.size,0,none⟩) v.size N,w2,_,?_,.gs _ _ _ _ _ _ _ _ _ 0 arr.size N (j9.ml _ _ _ _) (Aad _) hN' (by simp) (by omega),hres.1,hres.2⟩;have hsh:w1.shape? w.heap.size=some (e,arr.size):=by simp[World.shape?,nb1.new]
 simp[convert,aS hs,aS hd,aS he,Conv.stringToBytes,hq,hforced,hN,newRow,markStringish];have hsh':(w.drew.alloc (Obj.cells (Array.map (fun b=>Value.int IntKind.u8 ↑b.toNat) v.data++Array.replicate (N-v.size) (Value.int IntKind.u8 0)) e)).shape? w.heap.size=some (e,arr.size):=hsh;rw[hsh'];rfl
theorem TQ(mem:RH ρ ls s.loc s.heap w){src dst e:TypeId}(hs:P.underlying src=some (.slice e))(he:P.underlying e=some (.int .u8))(hd:P.underlying dst=some .string)
 {x:AV} {xv:Value} (r:RV ρ ls x xv) {l:List UInt8} (h:(s.b6 1 x).bind jx=some l):
 (convert src dst xv).run P w=.ok (.string ⟨l.toArray⟩) w:=by
 cases hc:s.b6 1 x with
 | none=>simp[hc]at h
 | some cs=>
  simp only[hc,Aai]at h;have hn:∃n,lenOf x=some n:=by unfold St.b6 at hc;split at hc<;>first|(cases hc;done)|exact⟨_,rfl⟩
  obtain⟨n,hn⟩:=hn;obtain⟨A,cap,vals,rfl,h1,h2,h3,h4,h5⟩:=sL mem r hc hn;rw[run_convert_bytes_string w src dst e A n cap hs he hd];have key:∀(cs:List AV) (vals:List Value) (l:List UInt8),kX ρ ls cs vals→jx cs=some l→∃ns:List Int,vals=ns.map (Value.int .u8)∧l=ns.map fun n=>UInt8.ofNat n.toNat:=by
   intro cs
   induction cs with
   | nil=>
    intro vals l hr hl;have:vals=[]:=Aae hr.1.symm;subst this;simp[jx]at hl;exact⟨[],rfl,hl.symm▸rfl⟩
   | cons c cs ih=>
    intro vals l hr hl;cases vals with
    | nil=>have:=hr.1;simp at this
    | cons v vals=>
     have h0:RV ρ ls c v:=hr.2 0 c rfl;cases c<;>first|(simp[jx]at hl;done)|skip
     rename_i k m;cases k<;>first|(simp[jx]at hl;done)|skip
     simp only[jx,Aah]at hl;obtain⟨l',hl1,hl2⟩:=hl;obtain⟨ns,e1,e2⟩:=ih vals l' ⟨by have:=hr.1;simpa using this,fun i x hx=>by have:=hr.2 (i+1) x hx;simpa using this⟩ hl1;cases h0;exact⟨m::ns,by simp[e1],by simp[←hl2,e2]⟩
  obtain⟨ns,e1,e2⟩:=key cs vals l h2 h;have hfold:∀(ns:List Int) (b:ByteArray),ns.foldl (fun r n=>r.push (UInt8.ofNat n.toNat)) b=⟨(b.data.toList++ns.map fun n=>UInt8.ofNat n.toNat).toArray⟩:=by
   intro ns
   induction ns with
   | nil=>intro b;simp
   | cons n ns ih=>intro b;simp only[List.foldl_cons,ih,Aal];congr 1;simp[ByteArray.push]
  cases A with
  | none=>
   have:n=0:=by
    rcases Nat.eq_zero_or_pos n with h|h
    ·exact h
    ·have:=h4 (by omega);simp at this
   subst this;have:vals=[]:=Aae (by simpa using h1);subst this;have:ns=[]:=by cases ns<;>simp at e1<;>rfl
   subst this;subst e2;rfl
  | some ad=>
   have hl:=run_loadCells_list (P:=P) (w:=w) ad vals (fun j u hu=>h5 ad rfl j u hu);rw[h1,Nat.mul_one,e1]at hl;rw[run_bytesToString w ad n cap ns hl,hfold,e2];simp[ByteArray.empty,ByteArray.emptyWithCapacity];rfl
end
end Go.AM
namespace Go.AM
section
variable {P:Program} {Γ:bG} {ρ:j9} {ls:List Nat} {s:St} {a:Act} {w:World}
theorem jW{o:Oper}{x:Sem Value}(h:execOp a.eval o=(do pure (Next.value (←x)))){cv:Value}{w':World}(hx:x.run P w=.ok cv w'):(execOp a.eval o).run P w=.ok (.value cv) w':=by
 rw[h];simp[hx]
theorem TA{o:Oper}{x:Sem Unit}(h:execOp a.eval o=(do x;pure Next.skip)){w':World}(hx:x.run P w=.ok () w'):(execOp a.eval o).run P w=.ok .skip w':=by
 rw[h];simp[hx]
theorem mr:RV ρ ls (.tup []) undef:=.tup _ [] #[] rfl (fun i x h=>by simp at h)
theorem pH.mk{o:Oper}{v:AV}{s':St}{cv:Value}{w':World}{ρ':j9}{ls':List Nat}(he:s'.env=s.env)(h:(execOp a.eval o).run P w=.ok (.value cv) w')(r:RV ρ' ls' v cv)
 (m:RH ρ' ls' s'.loc s'.heap w') (e:ua ρ ls s.heap w ρ' ls' s'.heap w'):pH P ρ ls s a w o (.val v s'):=
 ⟨he,_,cv,w',ρ',ls',h,.inl rfl,r,m,e⟩
theorem pH.skip{o:Oper}{s':St}{w':World}{ρ':j9}{ls':List Nat}(he:s'.env=s.env)(h:(execOp a.eval o).run P w=.ok .skip w')
 (m:RH ρ' ls' s'.loc s'.heap w') (e:ua ρ ls s.heap w ρ' ls' s'.heap w'):pH P ρ ls s a w o (.val (.tup []) s'):=
 ⟨he,_,undef,w',ρ',ls',h,.inr ⟨rfl,rfl⟩,mr,m,e⟩
theorem sk{x:AV}{xv:Value}(r:RV ρ ls x xv){k:IntKind}{n:Int}(e:x=.int k n):xv=.int k n:=by subst e;cases r;rfl
theorem EJ{x:AV}{xv:Value}(r:RV ρ ls x xv){v:ByteArray}(e:x=.str v):xv=.string v:=by subst e;cases r;rfl
theorem Gc{x:AV}{xv:Value}(r:RV ρ ls x xv){b:Bool}(e:x=.bool b):xv=.bool b:=by subst e;cases r;rfl
variable {Θ:ub}
theorem table{t:TypeId}{α:Type}{f:TI→Option α}{r:α}(tab:iO P Θ)(h:(Θ t).bind f=some r):∃ti,TF P t ti∧f ti=some r∧Θ t=some ti:=by
 cases ht:Θ t with
 | none=>simp[ht]at h
 | some ti=>exact⟨ti,tab.tf ht,by simpa[ht]using h,rfl⟩
theorem uI{t:TypeId}{α:Type}{f:TI→α}{r:α}(tab:iO P Θ)(h:(Θ t).map f=some r):∃ti,TF P t ti∧f ti=r:=by
 cases ht:Θ t with
 | none=>simp[ht]at h
 | some ti=>exact⟨ti,tab.tf ht,by simpa[ht]using h⟩
theorem By{t:TypeId}{α:Type}{f:TI→Option α}{r:α}(tab:iO P Θ)(h:(elemOf Θ t).bind f=some r):∃e ei,P.underlying t=some (.slice e)∧TF P e ei∧f ei=some r:=by
 cases ht:elemOf Θ t with
 | none=>simp[ht]at h
 | some ei=>
  obtain⟨e,h1,h2⟩:=Ag tab ht;exact⟨e,ei,h1,h2,by simpa[ht]using h⟩
theorem Ar{t:TypeId}{α:Type}{f:TI→α}{r:α}(tab:iO P Θ)(h:(elemOf Θ t).map f=some r):∃e ei,P.underlying t=some (.slice e)∧TF P e ei∧f ei=r:=by
 cases ht:elemOf Θ t with
 | none=>simp[ht]at h
 | some ei=>
  obtain⟨e,h1,h2⟩:=Ag tab ht;exact⟨e,ei,h1,h2,by simpa[ht]using h⟩
theorem qd{α β:Type}{x:Option α}{f:α→Option β}{y:β}(h:x.bind f=some y):∃z,x=some z∧f z=some y:=by
 cases x with
 | none=>simp at h
 | some z=>exact⟨z,rfl,by simpa using h⟩
theorem Ak(rel:Rel Γ ρ ls s a w){gl:Bool}{o:Oper}{z:List AV}{zv:Value}{T:TypeId}(hz:kX ρ ls z zv.cells.toList)
 (h:(execOp a.eval o).run P w=.ok (.value (.pointer (some ⟨w.heap.size,0,none⟩))) { w with heap:=w.heap.push (.cells zv.cells T (0,0)) }):
 pH P ρ ls s a w o (if gl=true then (if z.all bM then .val (.gp s.heap.length 0 0) (s.push z)else .stuck)else .val (.lp s.loc.length 0) { s with loc:=s.loc++[z] }):=by
 split
 ·split
  ·rename_i hn;obtain⟨ρ',h1,h2,h3⟩:=Bj rel.mem (T:=T) hz hn;have:=RV.gp (ρ:=ρ') ls s.heap.length 0 0 w.heap.size 0 _ h3;exact .mk rfl h this h1 h2
  ·trivial
 ·obtain⟨h1,h2⟩:=MU rel.mem (T:=T) hz;refine .mk rfl h (.lp _ _ _ _ ?_) h1 h2;rw[List.getElem?_append_right (by rw[rel.mem.len];omega),rel.mem.len];simp
theorem GO{x:AV}{v:Value}(r:RV ρ ls x v)(h:isNil x=some false)(o:Oper)(X:Operand)(ho:o.op=.nilCheck X)(hv:a.eval X=v):(execOp a.eval o).run P w=.ok (.value v) w:=by
 unfold execOp;rw[ho];simp only[hv];cases r<;>simp[isNil]at h<;>rfl
theorem tupX{x:AV}{xv:Value}(r:RV ρ ls x xv){vs:List AV}(e:x=.tup vs){i:Nat}{v:AV}(h:vs[i]? = some v):∃cv,(Instr.extract xv i).run P w=.ok cv w∧RV ρ ls v cv:=by
 subst e;cases r with
 | tup _ _ us h1 r=>
  have hi:=aL h;have hr:=r i v h;refine⟨us[i]'(by omega),?_,?_⟩
  ·simp[Instr.extract,show i<us.size by omega]
  ·simpa[Array.getD,show i<us.size by omega]using hr
theorem aggX{e:TypeId}{ei:TI}(he:TF P e ei){cs:List AV}{vs:Array Value}(hr:kX ρ ls cs vs.toList){off:Nat}{v:AV}(h:(sub cs off ei.size).bind (nY ei.isAgg)=some v):
 ∃cv,(part e vs off).run P w=.ok cv w∧RV ρ ls v cv:=by
 obtain⟨us,h1,h2⟩:=qd h;obtain⟨s1,s2,s3⟩:=rM h1;have hl:=hr.1;simp at hl;unfold nY at h2;split at h2
 ·rename_i hag;injection h2 with h2
  subst h2;refine⟨.agg (vs.extract off (off+ei.size)),by simp[part,zQ he,hag,fP he],.agg _ _ _ (by simp;omega) (fun i x hx=>?_)⟩;have hi:=aL hx;rw[s3 i (by omega)]at hx;have:=hr.2 _ x hx;rw[fF]at this;have e1:(vs.extract off (off+ei.size)).getD i default=vs.getD (off+i) default:=by
   simp[Array.getD,show off+i<vs.size by omega,show i<min (off+ei.size) vs.size-off by omega]
  rw[e1];exact this
 ·rename_i x hag;injection h2 with h2
  subst h2;have hx:cs[off+0]? = some x:=by rw[←s3 0 (by simp at s2;omega)];rfl
  have:=hr.2 _ x hx;rw[fF]at this;have hlt:off<vs.size:=by simp at s2;omega
  refine⟨vs[off],by simp[part,zQ he,hag,hlt],?_⟩;simpa[Array.getD,hlt]using this
 ·cases h2
theorem Jv(rel:Rel Γ ρ ls s a w)(ps:List (Nat×Operand)):∀(i:Nat) p v,(ps.map fun p=>(p.1,s.eval Γ (lU p.2)))[i]? = some p→(ps.map fun p=>(p.1,a.eval p.2))[i]? = some v→p.1=v.1∧RV ρ ls p.2 v.2:=by
 intro i p v h1 h2;rw[Aab]at h1 h2;cases h:ps[i]? with
 | none=>simp[h]at h1
 | some q=>
  simp[h]at h1 h2;subst h1 h2;exact⟨rfl,bu rel q.2⟩
theorem pJ{α β:Type}{f:α→Option β}:∀{l:List α} {r:List β},l.mapM f=some r→r.length=l.length∧∀(i:Nat) x,l[i]? = some x→∃y,r[i]? = some y∧f x=some y:=by
 intro l
 induction l with
 | nil=>intro r h;simp at h;subst h;exact⟨rfl,fun i x hx=>by simp at hx⟩
 | cons b l ih=>
  intro r h;rw[Aak]at h;cases hb:f b with
  | none=>simp[hb]at h
  | some y=>
   cases hl:l.mapM f with
   | none=>simp[hb,hl]at h
   | some r'=>
    simp[hb,hl]at h;subst h;obtain⟨i1,i2⟩:=ih hl;refine⟨by simp[i1],fun i x hx=>?_⟩;cases i with
    | zero=>simp at hx;subst hx;exact⟨y,rfl,hb⟩
    | succ i=>exact i2 i x (by simpa using hx)
theorem AR.TJ(x:Option (AV×St)):(∃v s',x=some (v,s')∧AR.JA x=.val v s')∨(x=none∧AR.JA x=.stuck):=by
 cases x with
 | none=>exact .inr ⟨rfl,rfl⟩
 | some p=>exact .inl ⟨p.1,p.2,rfl,rfl⟩
theorem Ap{o:Oper}{c:Call}(h:o.op=.call c):execOp a.eval o=(do let d ←resolve a.eval c o.type;invoke d.target d.args):=by
 unfold execOp;rw[h]
theorem Fm{o:Oper}{c:Call}{b:Builtin}(h:o.op=.call c)(hb:c.callee=.builtin b):
 ∃cs,(execOp a.eval o).run P w=(builtin b c.argTypes o.type cs (c.args.map a.eval)).run P w:=by
 refine⟨c.args.map fun|.const _=>true|_=>false,?_⟩;rw[Ap h];simp[resolve,hb,invoke];rfl
theorem Da{α:Type}{xs:Array α}{x:α}(h:xs.toList=[x]):xs=#[x]:=by cases xs;simp at h;subst h;rfl
theorem Rb{α:Type}{xs:Array α}{x y:α}(h:xs.toList=[x,y]):xs=#[x,y]:=by cases xs;simp at h;subst h;rfl
theorem lenKs{x:AV}{xv:Value}(r:RV ρ ls x xv){n:Nat}(h:AF false x=some n):∃A c,xv=.slice A n c:=by
 cases r
 case opq=>
  simp only[AF]at h;split at h<;>try (cases h;done)
  all_goals first|(rename_i he;cases he;done)|skip
  all_goals (rename_i he;injection he with he;subst he;injection h with h;subst h;exact⟨_,_,rfl⟩)
 all_goals (simp[AF]at h)
 all_goals (subst h;exact⟨_,_,rfl⟩)
theorem lenKt{x:AV}{xv:Value}(r:RV ρ ls x xv){n:Nat}(h:AF true x=some n):∃sb,xv=.string sb∧sb.size=n:=by
 cases r
 case opq=>simp[AF]at h
 all_goals (simp[AF]at h)
 all_goals (subst h;exact⟨_,rfl,rfl⟩)
end
end Go.AM
namespace Go.AM
section
variable {P:Program} {Γ:bG} {ρ:j9} {ls:List Nat} {s:St} {a:Act} {w:World} {Θ:ub}
theorem pZ{o:Oper}{c:Call}{b:Builtin}(h:o.op=.call c)(hb:c.callee=.builtin b){cv:Value}{w':World}
 (hrun:∀cs,(builtin b c.argTypes o.type cs (c.args.map a.eval)).run P w=.ok (.value cv) w'):(execOp a.eval o).run P w=.ok (.value cv) w':=by
 obtain⟨cs,e⟩:=Fm (P:=P) (a:=a) (w:=w) h hb;rw[e];exact hrun cs
theorem Hl(tab:iO P Θ){o:Oper}{c:Call}(ho:o.op=.call c){i:I}(ht:GK Θ c=some i)(rel:Rel Γ ρ ls s a w)(gl:Bool):pH P ρ ls s a w o (step Γ gl s i):=by
 unfold GK at ht;cases hc:c.callee with
 | value f=>
  simp only[hc,Option.some.injEq]at ht;subst ht;simp only[step];have rf:=bu rel f;have ra:=ql rel c.args.toList;split
  ·rename_i g first caps hf
   rw[hf]at rf;cases hv:a.eval f<;>rw[hv]at rf<;>cases rf;rename_i first' caps' h1 r1 h2 r2
   refine⟨first'.toList++c.args.toList.map a.eval++caps'.toList,?_,?_⟩
   ·rw[Ap ho];simp[resolve,hc,hv,Deferred.ofValue,invoke]
    congr 2
    apply Array.ext';simp
   ·exact kX.append (kX.append ⟨by simpa using h1,fun i x hx=>by rw[fF];exact r1 i x hx⟩ ra) ⟨by simpa using h2,fun i x hx=>by rw[fF];exact r2 i x hx⟩
  ·trivial
 | invoke r m=>simp[hc]at ht
 | builtin b=>
  simp only[hc]at ht;split at ht
  ·-- len
   rename_i t x h1 h2;have e1:=Da h1;have e2:=Da h2;obtain⟨ti,tf,hti,_⟩:=table tab ht;have rx:=bu rel x;split at hti
   ·rename_i hk;injection hti with hti
    subst hti;refine .nD rel.mem (fun v hv=>?_);cases hl:AF true (s.eval Γ (lU x))with
    | none=>simp[hl]at hv
    | some n=>
     simp[hl]at hv;subst hv;obtain⟨sb,hx,hsz⟩:=lenKt rx hl;exact⟨.int .i64 n,pZ ho hc (fun cs=>by simp[builtin,Builtin.len_,e1,e2,hx,aS (tf.vf hk),goInt,hsz]),.int _ _ _⟩
   ·rename_i e hk;injection hti with hti
    subst hti;refine .nD rel.mem (fun v hv=>?_);cases hl:AF false (s.eval Γ (lU x))with
    | none=>simp[hl]at hv
    | some n=>
     simp[hl]at hv;subst hv;obtain⟨A,cp,hx⟩:=lenKs rx hl;exact⟨.int .i64 n,pZ ho hc (fun cs=>by simp[builtin,Builtin.len_,e1,e2,hx,aS (tf.lY hk),goInt]),.int _ _ _⟩
   ·rename_i n e hk;injection hti with hti
    subst hti;exact .pure rel.mem (pZ ho hc (fun cs=>by simp[builtin,Builtin.len_,e1,e2,aS (tf.BU hk),goInt])) (.int _ _ _)
   ·cases hti
  ·-- cap
   rename_i t x h1 h2;have e1:=Da h1;have e2:=Da h2;obtain⟨ti,tf,hti,_⟩:=table tab ht;have rx:=bu rel x;split at hti
   ·rename_i e hk;injection hti with hti
    subst hti;simp only[step];split
    ·rename_i hx;rw[hx]at rx;cases hv:a.eval x<;>rw[hv]at rx<;>cases rx;exact .pure rel.mem (pZ ho hc (fun cs=>by simp[builtin,Builtin.cap_,e1,e2,hv,aS (tf.lY hk),goInt])) (.int _ _ _)
    ·rename_i b g off len cap sz hx;rw[hx]at rx;cases hv:a.eval x<;>rw[hv]at rx<;>cases rx
     ·rename_i h1 h2 h3 h4 h5;exact .pure rel.mem (pZ ho hc (fun cs=>by simp[builtin,Builtin.cap_,e1,e2,hv,aS (tf.lY hk),goInt,h5 rfl])) (.int _ _ _)
     ·exact .pure rel.mem (pZ ho hc (fun cs=>by simp[builtin,Builtin.cap_,e1,e2,hv,aS (tf.lY hk),goInt])) (.int _ _ _)
    ·trivial
   ·cases hti
  ·-- append
   rename_i t tx x y h1 h2;have e1:=Rb h1;have e2:=Rb h2;obtain⟨e,ei,hu,he,ht⟩:=By tab ht;obtain⟨yi,yf,ht,_⟩:=table tab ht;have rx:=bu rel x;have ry:=bu rel y;have key:∀str d,P.underlying tx=some d→(∀k,d≠.int k)→pH P ρ ls s a w o (step Γ gl s (.app ei.size ei.bytes ei.zero str (lU x) (lU y))):=by
    intro str d hd hk;simp only[step];split
    ·rename_i ys n m h3 h4 h5;rcases AR.TJ (sS s ei.size ei.bytes (s.eval Γ (lU x)) ys n m)with⟨v,s',h6,h7⟩|⟨_,h7⟩
     ·rw[h7];obtain⟨vals,src,rys⟩:=TW (P:=P) rel.mem ry h3 h4;obtain⟨g1,cv,w',ρ',g2,g3,g4,g5⟩:=TH (ty:=o.type) rel.mem hu he hd hk rx src rys h5 h6;exact .mk g1 (pZ ho hc (fun cs=>by simp[builtin,e1,e2,g2])) g3 g4 g5
     ·rw[h7];trivial
    ·trivial
   split at ht
   ·rename_i hk;injection ht with ht;subst ht;exact key true _ (yf.vf hk) (by simp)
   ·rename_i e' hk;injection ht with ht;subst ht;exact key false _ (yf.lY hk) (by simp)
   ·rename_i k hk;injection ht with ht;subst ht
    simp only[step];split
    ·rename_i kn n h3 h4;rw[h3]at rx;cases hvx:a.eval x<;>rw[hvx]at rx<;>cases rx;have hvy:=sk ry h4;unfold Gj;split
     ·rename_i hb;obtain⟨h0,hsz,hb⟩:=hb;split
      ·rename_i hz;obtain⟨m,rfl⟩:=Int.eq_ofNat_of_zero_le (show 0≤n by omega);simp only[Int.toNat_natCast]at hb ⊢;have h0':0<m:=by omega
       obtain⟨N,arr,w',vals,hrun,hN,hasz,nb,⟨rest,hrest⟩,hv⟩:=KR (w:=w) (ty:=o.type) (kn:=kn) hu he (yf.A9 hk) h0' hsz hb;have hl2:=(hv ρ []).1;have hzl:ei.zero.length=ei.size:=by
        obtain⟨z,z1,z2,z3⟩:=he.zero w ρ ls;have:=z2.1;simp at this;omega
       have hlen:(List.replicate m ei.zero).flatten.length=m*ei.size:=by simp[hzl]
       have hmul:=Nat.mul_le_mul_right ei.size hN;have hall:(List.replicate m ei.zero).flatten.all bM=true:=by
        rw[Aag]at *;intro x hx;obtain⟨l,hl1,hl2⟩:=Aaj.1 hx;rw[Aaf hl1]at hl2;exact hz x hl2
       have hres:=rel.mem.AX (cs:=(List.replicate m ei.zero).flatten) nb (.inl (by simp)) (by omega) (pr.ofPrefix (hv ρ []) hrest);exact .mk rfl (pZ ho hc (fun cs=>by simp[builtin,e1,e2,hvx,hvy,hrun])) (.gs _ _ _ _ _ _ _ _ _ 0 arr.size N (j9.ml _ _ _ _) (Aad _) hN (by simp) (by omega)) hres.1 hres.2
      ·trivial
     ·trivial
    ·trivial
   ·cases ht
  ·-- clear
   rename_i t x h1 h2;have e1:=Da h1;have e2:=Da h2;obtain⟨e,ei,hu,he,ht⟩:=Ar tab ht;subst ht;have rx:=bu rel x;obtain⟨z,hz1,hz2,hz3⟩:=he.zero w ρ ls;have hzw:∀w',(zeroValue e).run P w'=.ok z w':=fun w'=>by
    obtain⟨z',g1,g2,g3⟩:=he.zero w' ρ ls;obtain⟨i,d,z0,q1,q2,q3,q4,q5,_⟩:=he.info;rw[pW q1 q5]at hz1;injection hz1 with hz1
    subst hz1;exact pW q1 q5
   simp only[step,Cx];split
   ·rename_i hx;rw[hx]at rx;cases hv:a.eval x<;>rw[hv]at rx<;>cases rx;exact⟨rfl,_,_,w,ρ,ls,pZ ho hc (fun cs=>by simp[builtin,Builtin.clear_,e1,e2,hv,aS hu];rfl),.inl rfl,mr,rel.mem,.refl _ _ _ _⟩
   ·rename_i b g off len cap sz' ex hx;rw[hx]at rx;split
    ·rename_i h0;subst h0;cases hv:a.eval x<;>rw[hv]at rx<;>cases rx
     ·exact⟨rfl,_,_,w,ρ,ls,pZ ho hc (fun cs=>by simp[builtin,Builtin.clear_,e1,e2,hv,aS hu];rfl),.inl rfl,mr,rel.mem,.refl _ _ _ _⟩
     ·exact⟨rfl,_,_,w,ρ,ls,pZ ho hc (fun cs=>by simp[builtin,Builtin.clear_,e1,e2,hv,aS hu];rfl),.inl rfl,mr,rel.mem,.refl _ _ _ _⟩
    ·rename_i h0;split
     ·cases hs:s.store (.gp b g off) (List.replicate len ei.zero).flatten with
      | none=>trivial
      | some s'=>
       simp only[AR.G5];cases hv:a.eval x<;>rw[hv]at rx<;>cases rx
       ·rename_i cap' c o' n h1 h2 h3 h4 h5;obtain⟨c',o'',w',g1,g2,g3,g4,g5⟩:=CY (P:=P) rel.mem (RV.gp ls b g off c o' n h1) (hz2.replicate len) hs;injection g1 with g1
        injection g1 with g1
        injection g1 with g1 g1'
        subst g1 g1';refine⟨g3,_,_,w',ρ,ls,pZ ho hc (fun cs=>?_),.inl rfl,mr,g4,g5⟩;have hcells:(Builtin.zeroCells z.cells len).toList=(List.replicate len z.cells.toList).flatten:=by
         unfold Builtin.zeroCells;exact AQ len z.cells z.cells.size rfl (fun h=>by
          rcases Nat.mul_eq_zero.1 h with h|h
          ·exact .inl h
          ·exact .inr h)
        have hlen0:len≠0:=h0;cases len with
        | zero=>exact absurd rfl hlen0
        | succ len=>simp[builtin,Builtin.clear_,e1,e2,hv,aS hu,hzw,hcells,g2];rfl
       ·exact absurd rfl h0
     ·trivial
   ·rename_i β sz' ex hx;rw[hx]at rx;cases hv:a.eval x<;>rw[hv]at rx<;>cases rx
    ·exact⟨rfl,_,_,w,ρ,ls,pZ ho hc (fun cs=>by simp[builtin,Builtin.clear_,e1,e2,hv,aS hu];rfl),.inl rfl,mr,rel.mem,.refl _ _ _ _⟩
    ·exact⟨rfl,_,_,w,ρ,ls,pZ ho hc (fun cs=>by simp[builtin,Builtin.clear_,e1,e2,hv,aS hu];rfl),.inl rfl,mr,rel.mem,.refl _ _ _ _⟩
    ·exact⟨rfl,_,_,w,ρ,ls,pZ ho hc (fun cs=>by simp[builtin,Builtin.clear_,e1,e2,hv,aS hu];rfl),.inl rfl,mr,rel.mem,.refl _ _ _ _⟩
   ·trivial
  ·-- max
   injection ht with ht
   subst ht;simp only[step];refine .nD rel.mem (fun v hv=>?_);have ra:=ql rel c.args.toList;unfold aMM at hv;split at hv
   ·rename_i k x k' y hxs;split at hv
    ·rename_i hk;injection hv with hv
     subst hv hk;rw[hxs]at ra;have r0:=ra.2 0 _ rfl;have r1:=ra.2 1 _ rfl;have hl:=ra.1;cases hc':c.args.toList.map a.eval with
     | nil=>simp[hc']at hl
     | cons u us=>
      cases us with
      | nil=>simp[hc']at hl
      | cons u' us=>
       cases us with
       | cons _ _=>simp[hc']at hl
       | nil=>
        rw[hc']at r0 r1;have r0:RV ρ ls (.int k x) u:=r0;have r1:RV ρ ls (.int k y) u':=r1;cases r0;cases r1;refine⟨_,pZ ho hc (fun cs=>?_),.int _ _ _⟩;simp[builtin,Builtin.max_,hc',Builtin.max2]
    ·cases hv
   ·cases hv
  ·-- min
   injection ht with ht
   subst ht;simp only[step];refine .nD rel.mem (fun v hv=>?_);have ra:=ql rel c.args.toList;unfold aMM at hv;split at hv
   ·rename_i k x k' y hxs;split at hv
    ·rename_i hk;injection hv with hv
     subst hv hk;rw[hxs]at ra;have r0:=ra.2 0 _ rfl;have r1:=ra.2 1 _ rfl;have hl:=ra.1;cases hc':c.args.toList.map a.eval with
     | nil=>simp[hc']at hl
     | cons u us=>
      cases us with
      | nil=>simp[hc']at hl
      | cons u' us=>
       cases us with
       | cons _ _=>simp[hc']at hl
       | nil=>
        rw[hc']at r0 r1;have r0:RV ρ ls (.int k x) u:=r0;have r1:RV ρ ls (.int k y) u':=r1;cases r0;cases r1;refine⟨_,pZ ho hc (fun cs=>?_),.int _ _ _⟩;simp[builtin,Builtin.min_,hc',Builtin.min2]
    ·cases hv
   ·cases hv
  ·cases ht
end
end Go.AM
namespace Go.AM
section
variable {P:Program} {Γ:bG} {ρ:j9} {ls:List Nat} {s:St} {a:Act} {w:World} {Θ:ub}
theorem run_places{fields:List Field}(h:∀f∈fields,∃i,P.info? f.type=some i):
 (fields.toArray.mapM fun f=>(Prod.mk f.offset <$> sizeOf f.type:Sem (Nat×Nat))).run P w=.ok (fields.map fun f=>(f.offset,P.cellsOf f.type)).toArray w:=by
 rw[Array.mapM_eq_mapM_toList,Sem.run_map];have key:∀fields:List Field,(∀f∈fields,∃i,P.info? f.type=some i)→
  (fields.mapM fun f=>(Prod.mk f.offset <$> sizeOf f.type:Sem (Nat×Nat))).run P w=.ok (fields.map fun f=>(f.offset,P.cellsOf f.type)) w:=by
  intro fields
  induction fields with
  | nil=>intro _;rfl
  | cons f r ih=>
   intro h;obtain⟨i,hi⟩:=h f (by simp);rw[Aak];simp only[Sem.run_bind,Sem.run_map,th hi,Result.andThen_ok,ih (fun f hf=>h f (by simp[hf])),Sem.run_pure,Aal];simp[Program.cellsOf,hi]
 rw[key fields h];rfl
theorem Fk(tab:iO P Θ){o:Oper}{i:I}(ht:Nl Θ o.op=some i)(rel:Rel Γ ρ ls s a w)(gl:Bool):pH P ρ ls s a w o (step Γ gl s i):=by
 obtain⟨dst,op,type,pos,after,guard⟩:=o;cases op<;>simp only[Nl]at ht<;>try (cases ht;done)
 case move x=>injection ht with ht;subst ht;exact .pure rel.mem rfl (bu rel x)
 case assign x=>injection ht with ht;subst ht;exact .pure rel.mem rfl (bu rel x)
 case pick c x y=>
  injection ht with ht
  subst ht;have rc:=bu rel c;simp only[step];split
  ·rename_i t hc;have e:=Gc rc hc;cases t
   ·exact .pure rel.mem (jW (x:=do pure (if ←asBool (a.eval c)then a.eval x else a.eval y)) (by simp[execOp]) (cv:=a.eval y) (by simp[e,asBool])) (by simpa using bu rel y)
   ·exact .pure rel.mem (jW (x:=do pure (if ←asBool (a.eval c)then a.eval x else a.eval y)) (by simp[execOp]) (cv:=a.eval x) (by simp[e,asBool])) (by simpa using bu rel x)
  ·trivial
 case alloc e=>
  obtain⟨ti,tf,rfl⟩:=uI tab ht;obtain⟨z,h1,h2,h3⟩:=tf.zero w ρ ls;exact Ak rel h2 (jW (by simp only[execOp]<;>rfl) (by simp[Instr.alloc,h1,newVar,newRow];rfl))
 case box e x=>
  injection ht with ht
  subst ht;have rx:=bu rel x;simp only[step];split
  ·rename_i cs hcs;exact Ak rel (Cm rx hcs) (jW (by simp only[execOp]<;>rfl) (by simp[Instr.box,newVar,newRow];rfl))
  ·trivial
 case build t parts=>
  obtain⟨ti,tf,ht,_⟩:=table tab ht;obtain⟨i0,d,z,q1,q2,q3,q4,q5,q6,q7,q8,q9⟩:=tf.info;have hz:kX ρ ls ti.zero z.cells.toList:=by rw[←q7];exact wy _
  have hzw:(zeroValue t).run P w=.ok z w:=pW q1 q5;split at ht
  ·rename_i fs hk;obtain⟨fields,hu,hfs⟩:=tf.Dh hk;split at ht
   case isFalse=>cases ht
   rename_i hall;cases hm:parts.toList.mapM fun(p:Nat×Operand)=>(fs[p.1]?).bind fun f=>(Θ f.2).map fun fi=>(f.1,fi.size,lU p.2)with
   | none=>simp[hm]at ht
   | some ps=>
    simp only[hm,Aac,Option.some.injEq]at ht;subst ht;simp only[step];refine .nD rel.mem (fun v hv=>?_);cases hf:mg ti.zero (ps.map fun p=>(p.1,p.2.1,s.eval Γ p.2.2))with
    | none=>simp[hf]at hv
    | some res=>
     simp only[hf,Aac,Option.some.injEq]at hv;subst hv;obtain⟨m1,m2⟩:=pJ hm;have hplaces:∃places:Array (Nat×Nat),(fields.mapM fun f=>(Prod.mk f.offset <$> sizeOf f.type:Sem (Nat×Nat))).run P w=.ok places w∧
      ∀(i:Nat) (off:Nat) (ft:TypeId) (fi:TI),fs[i]? = some (off,ft)→Θ ft=some fi→places[i]? = some (off,fi.size):=by
      refine⟨_,run_places (fields:=fields.toList) (fun f hf=>?_),fun i off ft fi hi hfi=>?_⟩
      ·rw[Aag]at hall;have:=hall (f.offset,f.type) (by rw[hfs];exact List.mem_map.2 ⟨f,hf,rfl⟩);cases hΘ:Θ f.type with
       | none=>simp[hΘ]at this
       | some fi=>obtain⟨i1,g1,g2,_⟩:=(tab.tf hΘ).size;exact⟨i1,g1⟩
      ·rw[hfs,Aab]at hi;cases hff:fields.toList[i]? with
       | none=>simp[hff]at hi
       | some f=>
        simp[hff]at hi;obtain⟨rfl,rfl⟩:=hi;obtain⟨i1,g1,g2,_⟩:=(tab.tf hfi).size;rw[List.getElem?_toArray,Aab,hff];simp[Program.cellsOf,g1,g2]
     obtain⟨places,p1,p2⟩:=hplaces;obtain⟨arr',f1,f2⟩:=DP (ρ:=ρ) (ls:=ls) (places[·]?) (ps.map fun p=>(p.1,p.2.1,s.eval Γ p.2.2)) (parts.toList.map fun p=>(p.1,a.eval p.2)) ti.zero z.cells res (by simp[m1]) (fun j p v hp hv=>by
      rw[Aab]at hp hv;cases hq:parts.toList[j]? with
      | none=>simp[hq]at hv
      | some q=>
       obtain⟨y,y1,y2⟩:=m2 j q hq;simp[hq,y1]at hp hv;subst hp hv;obtain⟨f,g1,g2⟩:=qd y2;cases hfi:Θ f.2 with
       | none=>simp[hfi]at g2
       | some fi=>
        simp[hfi]at g2;subst g2;exact⟨p2 _ f.1 f.2 fi g1 hfi,bu rel q.2⟩) hz hf
     refine⟨.agg arr',jW (by simp only[execOp]<;>rfl) ?_,.agg _ _ _ (by have:=f2.1;simpa using this) (fun i x hx=>by rw[←fF];exact f2.2 i x hx)⟩;simp[Instr.build,hzw,aS hu,p1,f1]
  ·rename_i n e hk;obtain⟨ei,he,rfl⟩:=uI tab ht;simp only[step];refine .nD rel.mem (fun v hv=>?_);cases hf:mg ti.zero ((parts.toList.map fun p=>(p.1*ei.size,ei.size,lU p.2)).map fun p=>(p.1,p.2.1,s.eval Γ p.2.2))with
   | none=>rw[hf]at hv;simp at hv
   | some res=>
    rw[hf]at hv;simp only[Aac,Option.some.injEq]at hv;subst hv;obtain⟨arr',f1,f2⟩:=DP (ρ:=ρ) (ls:=ls) (fun i=>some (i*ei.size,ei.size)) ((parts.toList.map fun p=>(p.1*ei.size,ei.size,lU p.2)).map fun p=>(p.1,p.2.1,s.eval Γ p.2.2)) (parts.toList.map fun p=>(p.1,a.eval p.2)) ti.zero z.cells res (by simp) (fun j p v hp hv=>by
     simp only[List.map_map,Aab]at hp hv;cases hq:parts.toList[j]? with
     | none=>simp[hq]at hv
     | some q=>
      simp[hq]at hp hv;subst hp hv;exact⟨rfl,bu rel q.2⟩) hz hf
    refine⟨.agg arr',jW (by simp only[execOp]<;>rfl) ?_,.agg _ _ _ (by have:=f2.1;simpa using this) (fun i x hx=>by rw[←fF];exact f2.2 i x hx)⟩;simp[Instr.build,hzw,aS (tf.BU hk),fP he,f1]
  ·cases ht
 case buildSlice t len parts=>
  obtain⟨e,ei,hu,he,ht⟩:=By tab ht;split at ht
  ·rename_i hsz;injection ht with ht
   subst ht;simp only[step];split
   ·rename_i cs hcs;split
    ·rename_i hn;obtain⟨arr,h1,h2⟩:=MH (ρ:=ρ) (ls:=ls) (w:=w) hu he (ps:=(parts.toList.map fun p=>(p.1,lU p.2)).map fun p=>(p.1,s.eval Γ p.2)) (vs:=parts.toList.map fun p=>(p.1,a.eval p.2)) (by simp)
      (by simpa using Jv rel parts.toList) hsz (by simpa[Function.comp_def]using hcs)
     obtain⟨ρ',g1,g2,g3⟩:=Bj rel.mem (T:=e) h2 hn;refine .mk rfl (jW (by simp only[execOp]<;>rfl) (cv:=.slice (some ⟨w.heap.size,0,none⟩) len len) ?_) (.gs _ _ _ _ _ _ _ _ _ 0 arr.size len g3 (Aad _) (Aad _) (fun _=>rfl) ?_) g1 g2
     ·have e1:(parts.toList.map fun p=>(p.1,a.eval p.2)).toArray=parts.map fun p=>(p.1,a.eval p.2):=by apply Array.ext';simp
      rw[e1]at h1;exact h1
     ·have hl:=h2.1;have hfl:∀(ps:List (Nat×Nat×AV)) (l r:List AV),mg l ps=some r→r.length=l.length:=by
       intro ps
       induction ps with
       | nil=>intro l r h;simp[mg]at h;rw[h]
       | cons p ps ih=>
        intro l r h;obtain⟨off,size,v⟩:=p;simp only[mg]at h;split at h
        ·split at h
         ·split at h
          ·rename_i hle;rw[ih _ _ h,qk hle]
          ·cases h
         ·cases h
        ·cases h
      have hl2:=hfl _ _ _ hcs;have hzl:ei.zero.length=ei.size:=by
       obtain⟨z,z1,z2,z3⟩:=he.zero w ρ ls;have:=z2.1;simp at this;omega
      simp[hzl]at hl2;simp at hl;omega
    ·trivial
   ·trivial
  ·cases ht
 case load t x=>
  obtain⟨ti,tf,rfl⟩:=uI tab ht;exact .nD rel.mem (fun v hv=>let ⟨cv,h1,h2⟩:=Hy rel.mem tf (bu rel x) hv;⟨cv,jW (by simp only[execOp]<;>rfl) h1,h2⟩)
 case store t x y=>
  obtain⟨ti,tf,rfl⟩:=uI tab ht;simp only[step];split
  ·rename_i cs hcs;split
   ·rename_i hl;cases hs:s.store (s.eval Γ (lU x)) cs with
    | none=>trivial
    | some s'=>
     have hr:=Cm (bu rel y) hcs;obtain⟨c,o,w',h1,h2,h3,h4,h5⟩:=CY (P:=P) rel.mem (bu rel x) hr hs;have hl':=hr.1;simp at hl';refine .skip h3 (TA (x:=Instr.storeAt t (a.eval x) (a.eval y)) (by simp only[execOp]) ?_) h4 h5;rw[h1];exact Gm tf (by omega) h2
   ·trivial
  ·trivial
 case nilCheck x=>
  injection ht with ht
  subst ht;simp only[step];split
  ·rename_i hn;exact .pure rel.mem (GO (bu rel x) hn _ x rfl rfl) (bu rel x)
  ·trivial
 case binOp op t x y yt=>
  obtain⟨ti,tf,ht,_⟩:=table tab ht;obtain⟨k,hk,ht⟩:=qd ht;split at ht
  ·cases ht
  ·rename_i hc;injection ht with ht
   subst ht;refine .nD rel.mem (fun v hv=>?_);obtain⟨cv,h1,h2⟩:=TT (w:=w) tf hk (X:=x) (Y:=y) (fun e=>by
    rcases Bool.eq_false_or_eq_true (Region.isConst x || Region.isConst y)with h|h
    ·exact h
    ·exact absurd ⟨e,by rw[h];rfl⟩ hc) (bu rel x) (bu rel y) hv
   exact⟨cv,jW (by simp only[execOp]<;>rfl) h1,h2⟩
 case unOp op t x=>
  injection ht with ht
  subst ht;exact .nD rel.mem (fun v hv=>let ⟨cv,h1,h2⟩:=ZV (P:=P) (w:=w) (bu rel x) hv;⟨cv,jW (by simp only[execOp]<;>rfl) h1,h2⟩)
 case convert src dst x=>
  obtain⟨ai,af,ht,_⟩:=table tab ht;obtain⟨bi,bf,ht,_⟩:=table tab ht;have rx:=bu rel x;split at ht
  ·rename_i k0 k h1 h2;injection ht with ht
   subst ht;simp only[step];split
   ·rename_i k' n hx;have e:=sk rx hx;exact .pure rel.mem (jW (by simp only[execOp]<;>rfl) (by simp[convert,aS (af.A9 h1),aS (bf.A9 h2),e,Conv.intToInt]<;>rfl)) (.int _ _ _)
   ·trivial
  ·rename_i h1 h2;injection ht with ht
   subst ht;simp only[step];split
   ·rename_i v hx;have e:=EJ rx hx;exact .pure rel.mem (jW (by simp only[execOp]<;>rfl) (by simp[convert,aS (af.vf h1),aS (bf.vf h2),e]<;>rfl)) (.str _ _)
   ·trivial
  ·rename_i e h1 h2;obtain⟨ei,ef,ht,_⟩:=table tab ht;split at ht
   ·rename_i hk;injection ht with ht
    subst ht;simp only[step];split
    ·rename_i v hx;have ex:=EJ rx hx;split
     ·obtain⟨cv,w',ρ',g1,g2,g3,g4⟩:=T0 rel.mem (af.vf h1) (bf.lY h2) (ef.A9 hk) v;exact .mk rfl (jW (x:=convert src dst (a.eval x)) (by simp only[execOp]) (by rw[ex];exact g1)) g2 g3 g4
     ·trivial
    ·trivial
   ·cases ht
  ·rename_i e h1 h2;obtain⟨ei,ef,ht,_⟩:=table tab ht;split at ht
   ·rename_i hk;injection ht with ht
    subst ht;simp only[step];refine .nD rel.mem (fun v hv=>?_);cases hl:(s.b6 1 (s.eval Γ (lU x))).bind jx with
    | none=>rw[hl]at hv;simp at hv
    | some l=>
     rw[hl]at hv;simp at hv;subst hv;exact⟨_,jW (by simp only[execOp]<;>rfl) (TQ rel.mem (af.lY h1) (ef.A9 hk) (bf.vf h2) rx hl),.str _ _⟩
   ·cases ht
  ·cases ht
 case makeFunc fn first caps=>
  cases fn<;>simp only[]at ht<;>try (cases ht;done)
  rename_i f;injection ht with ht
  subst ht;have r1:=ql rel first.toList
  have r2:=ql rel caps.toList;refine .pure rel.mem (jW (by simp only[execOp]<;>rfl) (cv:=.func (.func f) (first.map a.eval) (caps.map a.eval)) (by simp[Instr.makeFunc])) (.fn _ _ _ _ _ _ ?_ ?_ (fun i x hx=>?_) (fun i x hx=>?_))
  ·simp
  ·simp
  ·have:=r1.2 i x (by simpa using hx);rw[←fF];simpa using this
  ·have:=r2.2 i x (by simpa using hx);rw[←fF];simpa using this
 case makeSlice t l c=>
  obtain⟨e,ei,hu,he,ht⟩:=Ar tab ht;subst ht;simp only[step];split
  ·rename_i k ln k' cp hl hc;have el:=sk (bu rel l) hl;have ec:=sk (bu rel c) hc;unfold Jo;split
   ·rename_i hb;obtain⟨rfl,h0,hb⟩:=hb;split
    ·rename_i hz;obtain⟨arr,h1,h2⟩:=Ng (w:=w) (k:=k) (k':=k') hu he h0 hb;have hr:=h2 ρ ls;obtain⟨ρ',g1,g2,g3⟩:=Bj rel.mem (T:=e) hr (by
      rw[Aag]at *;intro x hx;obtain⟨l,hl1,hl2⟩:=Aaj.1 hx;rw[Aaf hl1]at hl2;exact hz x hl2)
     have hzl:ei.zero.length=ei.size:=by
      obtain⟨z,z1,z2,z3⟩:=he.zero w ρ ls;have:=z2.1;simp at this;omega
     have hlen:=hr.1;simp[hzl]at hlen;refine .mk rfl (jW (x:=Instr.makeSlice t (a.eval l) (a.eval c)) (by simp only[execOp]) (by rw[el,ec];exact h1)) (.gs _ _ _ _ _ _ _ _ _ 0 arr.size _ g3 (Aad _) (Aad _) (fun _=>rfl) (by omega)) g1 g2
    ·trivial
   ·trivial
  ·trivial
 case slice t x lo hi mx=>
  cases hsk:LN Θ t with
  | none=>simp[hsk]at ht
  | some k=>
   simp only[hsk,Aac,Option.some.injEq]at ht;subst ht;simp only[step];split
   ·rename_i l h m h1 h2 h3;obtain⟨o1,d1⟩:=GZ rel h1;have oh:OB (hi.map a.eval) h:=by
     cases hi with
     | none=>simp at h2;subst h2;trivial
     | some v=>
      simp only[Aac]at h2;cases hb:AG Γ s 0 (some (lU v))with
      | none=>simp[hb]at h2
      | some n=>
       simp[hb]at h2;subst h2;exact(GZ (lo:=some v) rel hb).1
    have om:OB (mx.map a.eval) m:=by
     cases mx with
     | none=>simp at h3;subst h3;trivial
     | some v=>
      simp only[Aac]at h3;cases hb:AG Γ s 0 (some (lU v))with
      | none=>simp[hb]at h3
      | some n=>
       simp[hb]at h3;subst h3;exact(GZ (lo:=some v) rel hb).1
    have el:(if lo.isSome then some l else none).getD 0=l:=by
     cases lo with
     | none=>simp;exact(d1 rfl).symm
     | some _=>simp
    refine .nD rel.mem (fun v hv=>?_);obtain⟨cv,g1,g2⟩:=JI (w:=w) tab hsk (bu rel x) o1 oh om (by rw[el];exact hv);exact⟨cv,jW (by simp only[execOp]<;>rfl) g1,g2⟩
   ·trivial
 case fieldAddr t x f=>
  obtain⟨ti,tf,ht,_⟩:=table tab ht;split at ht
  ·rename_i fs hk;obtain⟨p,hp,ht⟩:=qd ht;obtain⟨fi,ff,ht,_⟩:=table tab ht;split at ht
   ·cases ht
   ·rename_i h0;injection ht with ht
    subst ht;refine .nD rel.mem (fun v hv=>?_);obtain⟨c,o,g1,g2⟩:=KA (bu rel x) hv;exact⟨_,jW (x:=Instr.fieldAt t (a.eval x) f) (by simp only[execOp]) (by rw[g1];exact Gv tf hk hp ff h0),g2⟩
  ·cases ht
 case indexAddr t x ix=>
  obtain⟨ti,tf,ht,_⟩:=table tab ht;split at ht
  ·rename_i e hk;obtain⟨ei,ef,rfl⟩:=uI tab ht;simp only[step];split
   ·rename_i k n hn;have en:=sk (bu rel ix) hn;refine .nD rel.mem (fun v hv=>?_);obtain⟨cv,g1,g2⟩:=MB (P:=P) rel.mem tf hk ef (bu rel x) (k:=k) (w:=w) hv;exact⟨cv,jW (x:=Instr.indexAt t (a.eval x) (a.eval ix)) (by simp only[execOp]) (by rw[en];exact g1),g2⟩
   ·trivial
  ·rename_i n e hk;obtain⟨ei,ef,rfl⟩:=uI tab ht;simp only[step];split
   ·rename_i k n hn;have en:=sk (bu rel ix) hn;refine .nD rel.mem (fun v hv=>?_);obtain⟨cv,g1,g2⟩:=MT (P:=P) tf hk ef (bu rel x) (k:=k) (w:=w) hv;exact⟨cv,jW (x:=Instr.indexAt t (a.eval x) (a.eval ix)) (by simp only[execOp]) (by rw[en];exact g1),g2⟩
   ·trivial
  ·cases ht
 case index t x ix=>
  obtain⟨ti,tf,ht,_⟩:=table tab ht;have rx:=bu rel x;have ri:=bu rel ix;split at ht
  ·rename_i hk;injection ht with ht
   subst ht;simp only[step];split
   ·rename_i v k n hx hn;have ex:=EJ rx hx;have en:=sk ri hn;refine .nD rel.mem (fun u hu=>?_);split at hu
    ·rename_i h0;cases hb:v[n.toNat]? with
     | none=>simp[hb]at hu
     | some b=>
      simp[hb]at hu;subst hu;exact⟨_,jW (x:=Instr.index t (a.eval x) (a.eval ix)) (by simp only[execOp]) (by rw[ex,en];simp[Instr.index,asIntOf,aS (tf.vf hk),h0,hb]<;>rfl),.int _ _ _⟩
    ·cases hu
   ·trivial
  ·rename_i n e hk;obtain⟨ei,ef,rfl⟩:=uI tab ht;simp only[step];split
   ·rename_i cs k j hx hn;have en:=sk ri hn;refine .nD rel.mem (fun u hu=>?_);split at hu
    ·rename_i h0;rw[hx]at rx;cases hv:a.eval x<;>rw[hv]at rx<;>cases rx;rename_i vs h1 r;obtain⟨cv,g1,g2⟩:=aggX (P:=P) (w:=w) ef (ρ:=ρ) (ls:=ls) (cs:=cs) (vs:=vs) ⟨by simpa using h1,fun i x hx=>by rw[fF];exact r i x hx⟩ hu;exact⟨cv,jW (x:=Instr.index t (a.eval x) (a.eval ix)) (by simp only[execOp]) (by rw[hv,en];simp[Instr.index,asIntOf,aS (tf.BU hk),h0,fP ef,g1]),g2⟩
    ·cases hu
   ·trivial
  ·cases ht
 case extract x i=>
  injection ht with ht
  subst ht;simp only[step];split
  ·rename_i vs hx;refine .nD rel.mem (fun v hv=>?_);obtain⟨cv,g1,g2⟩:=tupX (P:=P) (w:=w) (bu rel x) hx hv;exact⟨cv,jW (by simp only[execOp]<;>rfl) g1,g2⟩
  ·trivial
 case call c=>exact Hl tab rfl ht rel gl
theorem Bv(tab:iO P Θ){o:Oper}{i:I}(ht:Tl Θ o.op=some i)(rel:Rel Γ ρ ls s a w)(gl:Bool):pH P ρ ls s a w o (step Γ gl s i):=by
 unfold Tl at ht;cases h0:Nl Θ o.op with
 | none=>rw[h0]at ht;simp at ht;subst ht;simp only[step];trivial
 | some j=>rw[h0]at ht;simp at ht;subst ht;exact Fk tab h0 rel gl
end
end Go.AM
namespace Go.AM
section
variable (P:Program) (Θ:ub) (Γ:bG)
def al(f:FuncId)(args:List AV)(s:St)(K:AV→St→Prop):Prop:=
 ∀ρ ls w cargs,RH ρ ls s.loc s.heap w→TR Γ ρ→kX ρ ls args cargs→
  Cb P f∧Calls P f cargs.toArray w fun e w'=>∃cv v s' ρ' ls',e=.returned cv∧s'.env=s.env∧RV ρ' ls' v cv∧
   RH ρ' ls' s'.loc s'.heap w'∧ua ρ ls s.heap w ρ' ls' s'.heap w'∧K v s'
def TC(c:C)(Q:AE→St→Prop)(s:St):Prop:=∀code,sN Θ code=some c→TK' P Γ code Q s
abbrev Gl:=List Nat
def sJ(gl:Gl)(o:O):Bool:=match o.dst with|some d=>gl.contains d|none=>false
def jS(gl:Gl)(os:List O):List O→(St→Prop)→St→Prop
 | [],K,s=>K s
 | o::r,K,s=>
  match guardOf os s o.gd with
  | none=>False
  | some t=>br t
   (match step Γ (sJ gl o) s o.op with
    | .val v s'=>jS gl os r K (s'.put o.dst v)
    | .call f args=>al P Γ f args s fun v s'=>jS gl os r K (s'.put o.dst v)
    | .stuck=>False)
   (jS gl os r K (s.put o.dst (.tup [])))
def nt(K:St→Prop)(Q:AE→St→Prop):AE→St→Prop
 | .normal,s=>K s
 | e,s=>Q e s
def pT(id:Nat)(Q:AE→St→Prop):AE→St→Prop
 | .exit i,s=>if i=id then Q .normal s else Q (.exit i) s
 | e,s=>Q e s
def yl(gl:Gl):C→(AE→St→Prop)→St→Prop
 | .skip,Q,s=>Q .normal s
 | .reg os,Q,s=>jS P Γ gl os os (Q .normal) s
 | .regD os af,Q,s=>TC P Θ Γ (.regD os af) Q s
 | .seq a b,Q,s=>yl gl a (nt (yl gl b Q) Q) s
 | .cond c a b,Q,s=>match s.eval Γ c with|.bool t=>br t (yl gl a Q s) (yl gl b Q s)|_=>False
 | .block id c,Q,s=>yl gl c (pT id Q) s
 | .loop c,Q,s=>TC P Θ Γ (.loop c) Q s
 | .exit id,Q,s=>Q (.exit id) s
 | .ret,Q,s=>Q .ret s
end
section
variable {P:Program} {Θ:ub} {Γ:bG}
theorem Sat.mono{Q Q':AE→St→Prop}{ρ₀ ls₀ h₀ w₀}(hq:∀e s,Q e s→Q' e s){e a w}(h:Sat Γ Q ρ₀ ls₀ h₀ w₀ e a w):Sat Γ Q' ρ₀ ls₀ h₀ w₀ e a w:=by
 obtain⟨s,ρ,ls,h1,h2,h3⟩:=h;refine⟨s,ρ,ls,h1,h2,?_⟩;cases e<;>simp only at h3 ⊢<;>first|exact hq _ _ h3|exact h3
theorem TK'.mono{code:Code}{Q Q':AE→St→Prop}{s:St}(h:TK' P Γ code Q s)(hq:∀e s,Q e s→Q' e s):TK' P Γ code Q' s:=
 fun ρ₀ ls₀ h₀ w₀ ρ ls a w he hr=>wp_mono (h ρ₀ ls₀ h₀ w₀ ρ ls a w he hr) (fun _ _ _=>Sat.mono hq)
theorem TC.mono{c:C}{Q Q':AE→St→Prop}{s:St}(h:TC P Θ Γ c Q s)(hq:∀e s,Q e s→Q' e s):TC P Θ Γ c Q' s:=
 fun code hc=>(h code hc).mono hq
theorem al.mono{f args s}{K K':AV→St→Prop}(h:al P Γ f args s K)(hk:∀v s',K v s'→K' v s'):al P Γ f args s K':=
 fun ρ ls w cargs h1 h2 h3=>let ⟨c,hc⟩:=h ρ ls w cargs h1 h2 h3
  ⟨c,hc.mono fun _ _ ⟨cv,v,s',ρ',ls',e1,e2,e3,e4,e5,e6⟩=>⟨cv,v,s',ρ',ls',e1,e2,e3,e4,e5,hk _ _ e6⟩⟩
theorem v7{ρ ls s a w}(rel:Rel Γ ρ ls s a w){s':St}(he:s'.env=s.env){ρ' ls' w'}(m:RH ρ' ls' s'.loc s'.heap w')(ev:ua ρ ls s.heap w ρ' ls' s'.heap w')
 {v:AV} {cv:Value} (rv:RV ρ' ls' v cv) (dst:Option Nat):Rel Γ ρ' ls' (s'.put dst v) (a.put dst cv) w':=by
 have henv:∀(i:Nat) (x:AV),s'.env[i]? = some x→RV ρ' ls' x (a.tmps.getD i undef):=fun i x hx=>(rel.env i x (he▸hx)).mono ev.le ev.ext;cases dst with
 | none=>exact⟨rel.defers,(congrArg List.length he).trans rel.size,henv,m,rel.glob.mono _ ev.le⟩
 | some d=>
  refine⟨rel.defers,?_,?_,m,rel.glob.mono _ ev.le⟩
  ·simp[St.put,Act.put,he,rel.size]
  ·intro i x hx;simp only[St.put,Act.put]at hx ⊢;by_cases hd:d=i
   ·subst hd;have hlt:=aL hx;simp at hlt;rw[List.getElem?_set_self hlt]at hx;injection hx with hx
    subst hx;rw[he,rel.size]at hlt;simpa[Array.getD,hlt]using rv
   ·rw[List.getElem?_set_ne hd]at hx;have:=henv i x hx;simpa[Array.getD_eq_getD_getElem?,Array.getElem?_setIfInBounds_ne hd]using this
theorem yG{f:FuncId}{args:Array Value}{w:World}(h:Cb P f):(callFunc f args).run P w=.ok (.enter f args) w:=by
 obtain⟨fn,c,h1,h2,h3⟩:=h;have h3':¬fn.name = "runtime.NumGoroutine" :=by simpa using h3
 simp[callFunc,h1,h2,h3']
theorem Jl(tab:iO P Θ){ops:Array Oper}{os:List O}(hos:ops.toList.mapM (JR Θ)=some os)(gl:Gl){Q:AE→St→Prop}{K:St→Prop}
 (hK:∀s,K s→Q .normal s) {ρ₀ ls₀ h₀ w₀}:∀(n i:Nat) (s:St),i+n=os.length→jS P Γ gl os (os.drop i) K s→∀ρ ls a w,ua ρ₀ ls₀ h₀ w₀ ρ ls s.heap w→Rel Γ ρ ls s a w→
  wpOps P ops (Sat Γ Q ρ₀ ls₀ h₀ w₀) (List.range' i n) a w:=by
 obtain⟨hlen,cF⟩:=pJ hos;intro n
 induction n with
 | zero=>
  intro i s hi h ρ ls a w ev rel;rw[List.drop_of_length_le (by omega)]at h;exact⟨s,ρ,ls,rel,ev,hK _ h⟩
 | succ n ih=>
  intro i s hi h ρ ls a w ev rel;have hil:i<os.length:=by omega
  rw[List.drop_eq_getElem_cons hil]at h;have hop:i<ops.toList.length:=by omega
  obtain⟨o',ho1,ho2⟩:=cF i _ (Aaa hop);have hoe:o'=os[i]:=by rw[Aaa hil]at ho1;exact(Option.some.inj ho1).symm
  subst hoe;have hopi:ops[i]? = some ops.toList[i]:=by rw[←Array.getElem?_toList,Aaa hop]
  generalize hoo:ops.toList[i]=o at ho2 hopi;have htr:Tl Θ o.op=some os[i].op∧os[i].dst=o.dst∧os[i].gd=o.guard:=by
   unfold JR at ho2;cases hI:Tl Θ o.op with
   | none=>simp[hI]at ho2
   | some x=>simp[hI]at ho2;rw[←ho2];simp
  obtain⟨ht,hd,hg⟩:=htr;simp only[jS]at h;rw[List.range'_succ];simp only[wpOps,hopi];have hguard:∀t,guardOf os s os[i].gd=some t→Region.wanted o (yielded ops a.tmps)=t:=by
   intro t hgd;rw[hg]at hgd;unfold guardOf at hgd;unfold Region.wanted;cases hog:o.guard with
   | none=>simp[hog]at hgd ⊢;exact hgd
   | some jw=>
    obtain⟨j,want⟩:=jw;simp only[hog]at hgd ⊢;have hdst:(os[j]?).bind (·.dst)=(ops[j]?).bind (·.dst):=by
     cases hoj:os[j]? with
     | none=>
      have:ops.toList.length≤j:=by
       rcases Aam j ops.toList.length with h|h
       ·rw[Aaa (by omega)]at hoj;cases hoj
       ·exact h
      rw[Array.getElem?_eq_none (by simpa using this)];rfl
     | some oj=>
      have hj:=aL hoj;obtain⟨o2,q1,q2⟩:=cF j _ (Aaa (show j<ops.toList.length by omega));rw[hoj]at q1;injection q1 with q1
      subst q1;have:ops[j]? = some ops.toList[j]:=by rw[←Array.getElem?_toList,Aaa]
      rw[this];unfold JR at q2;rw[Aah]at q2;obtain⟨x,_,q3⟩:=q2;rw[←q3];rfl
    rw[hdst]at hgd;unfold yielded;cases hb:(ops[j]?).bind (·.dst)with
    | none=>rw[hb]at hgd;simp at hgd;simp[hgd]
    | some d=>
     simp only[hb,Aai]at hgd ⊢;cases hv:s.env[d]? with
     | none=>
      have:a.tmps[d]? = none:=by
       rcases Aam d s.env.length with h|h
       ·rw[Aaa h]at hv;cases hv
       ·exact Array.getElem?_eq_none (by rw[←rel.size];exact h)
      simp[hv]at hgd;simp[this,hgd]
     | some x=>
      have hr:=rel.env d x hv;have hlt:d<a.tmps.size:=by rw[←rel.size];exact aL hv
      have hta:a.tmps[d]? = some (a.tmps.getD d undef):=by simp[hlt]
      rw[hta];generalize a.tmps.getD d undef=u at hr;cases hr<;>simp[hv]at hgd<;>(try subst hgd)<;>simp
  cases hgd:guardOf os s os[i].gd with
  | none=>simp[hgd]at h
  | some t=>
   rw[hguard t hgd];simp only[hgd]at h;obtain⟨hT,hF⟩:=h;cases t with
   | false=>
    simp only[Bool.false_eq_true,if_false];have hrel:=v7 rel rfl rel.mem (.refl _ _ _ _) (mr (ρ:=ρ) (ls:=ls)) os[i].dst;rw[←hd];exact ih (i+1) _ (by omega) (hF rfl) ρ ls _ w (by
     have:(s.put os[i].dst (.tup [])).heap=s.heap:=by cases os[i].dst<;>rfl
     rw[this];exact ev) hrel
   | true=>
    simp only[if_true];refine .inl ?_;have hs:=Bv tab ht rel (sJ gl os[i]);have hT:=hT rfl;unfold Oper.wp;cases hst:step Γ (sJ gl os[i]) s os[i].op with
    | stuck=>simp[hst]at hT
    | val v s'=>
     rw[hst]at hs;simp only[hst]at hT;obtain⟨he,nx,cv,w',ρ',ls',hrun,hnx,hrv,hmem,hev⟩:=hs;rw[hrun];have hrel:=v7 rel he hmem hev hrv os[i].dst;have hnext:=ih (i+1) _ (by omega) hT ρ' ls' (a.put o.dst cv) w' (by
      have:(s'.put os[i].dst v).heap=s'.heap:=by cases os[i].dst<;>rfl
      rw[this];exact ev.trans hev) (by rw[←hd];exact hrel)
     rcases hnx with rfl|⟨rfl,rfl⟩
     ·exact hnext
     ·exact hnext
    | call f args=>
     rw[hst]at hs;simp only[hst]at hT;obtain⟨cargs,hrun,hra⟩:=hs;obtain⟨hcal,hcalls⟩:=hT ρ ls w cargs rel.mem rel.glob hra;rw[hrun,yG hcal];simp only[Oper.upon];refine hcalls.mono ?_;rintro e w' ⟨cv,v,s',ρ',ls',rfl,he,hrv,hmem,hev,hk⟩;have hrel:=v7 rel he hmem hev hrv os[i].dst;exact ih (i+1) _ (by omega) hk ρ' ls' (a.put o.dst cv) w' (by
      have:(s'.put os[i].dst v).heap=s'.heap:=by cases os[i].dst<;>rfl
      rw[this];exact ev.trans hev) (by rw[←hd];exact hrel)
theorem Dz(tab:iO P Θ)(gl:Gl):∀(code:Code) (c:C) (Q:AE→St→Prop) (s:St),sN Θ code=some c→yl P Θ Γ gl c Q s→TK' P Γ code Q s:=by
 intro code
 induction code with
 | skip=>
  intro c Q s hc h ρ₀ ls₀ h₀ w₀ ρ ls a w ev rel;simp[sN]at hc;subst hc;exact wp_skip ⟨s,ρ,ls,rel,ev,h⟩
 | region id ops draw=>
  intro c Q s hc h;cases draw with
  | false=>
   simp only[sN]at hc;cases hos:ops.toList.mapM (JR Θ)with
   | none=>simp[hos]at hc
   | some os=>
    simp[hos]at hc;subst hc;intro ρ₀ ls₀ h₀ w₀ ρ ls a w ev rel;refine wp_region ?_;have hlen:=(pJ hos).1;have:=Jl tab hos gl (Q:=Q) (fun s h=>h) (ρ₀:=ρ₀) (ls₀:=ls₀) (h₀:=h₀) (w₀:=w₀) os.length 0 s (by omega) (by simpa[yl]using h) ρ ls a w ev rel;rw[List.range_eq_range',←Array.length_toList,←hlen];exact this
  | true=>
   simp only[sN]at hc;cases hos:ops.toList.mapM (JR Θ)with
   | none=>simp[hos]at hc
   | some os=>
    simp[hos]at hc;subst hc;exact h _ (by simp[sN,hos])
 | seq x y ihx ihy=>
  intro c Q s hc h;simp only[sN]at hc;obtain⟨cx,hx,hc⟩:=qd hc;cases hy:sN Θ y with
  | none=>simp[hy]at hc
  | some cy=>
   simp[hy]at hc;subst hc;have hX:=ihx cx _ s hx h;intro ρ₀ ls₀ h₀ w₀ ρ ls a w ev rel;refine wp_seq (wp_mono (hX ρ₀ ls₀ h₀ w₀ ρ ls a w ev rel) ?_);rintro e a' w' ⟨s',ρ',ls',hrel,hev,hq⟩;cases e<;>simp only[Exit.then]at hq ⊢
   ·exact ihy cy Q s' hy hq ρ₀ ls₀ h₀ w₀ ρ' ls' a' w' hev hrel
   ·exact⟨s',ρ',ls',hrel,hev,hq⟩
   ·exact⟨s',ρ',ls',hrel,hev,hq⟩
 | cond x y z ihy ihz=>
  intro c Q s hc h;simp only[sN]at hc;obtain⟨cy,hy,hc⟩:=qd hc;cases hz:sN Θ z with
  | none=>simp[hz]at hc
  | some cz=>
   simp[hz]at hc;subst hc;intro ρ₀ ls₀ h₀ w₀ ρ ls a w ev rel;have rx:=bu rel x;simp only[yl]at h;split at h
   ·rename_i t hx;have e:=Gc rx hx;refine wp_cond_split e (fun ht=>?_) (fun ht=>?_)
    ·exact ihy cy Q s hy (h.1 ht) ρ₀ ls₀ h₀ w₀ ρ ls a w ev rel
    ·exact ihz cz Q s hz (h.2 ht) ρ₀ ls₀ h₀ w₀ ρ ls a w ev rel
   ·exact h.elim
 | block id x ih=>
  intro c Q s hc h;simp only[sN]at hc;cases hx:sN Θ x with
  | none=>simp[hx]at hc
  | some cx=>
   simp[hx]at hc;subst hc;have hX:=ih cx _ s hx h;intro ρ₀ ls₀ h₀ w₀ ρ ls a w ev rel;refine wp_block (wp_mono (hX ρ₀ ls₀ h₀ w₀ ρ ls a w ev rel) ?_);rintro e a' w' ⟨s',ρ',ls',hrel,hev,hq⟩;cases e<;>simp only[Exit.inBlock]at hq ⊢
   ·exact⟨s',ρ',ls',hrel,hev,hq⟩
   ·simp only[pT]at hq;split
    ·rename_i hid;rw[if_pos hid]at hq;exact⟨s',ρ',ls',hrel,hev,hq⟩
    ·rename_i hid;rw[if_neg hid]at hq;exact⟨s',ρ',ls',hrel,hev,hq⟩
   ·exact⟨s',ρ',ls',hrel,hev,hq⟩
 | loop x ih=>
  intro c Q s hc h;simp only[sN]at hc;cases hx:sN Θ x with
  | none=>simp[hx]at hc
  | some cx=>
   simp[hx]at hc;subst hc;exact h _ (by simp[sN,hx])
 | exit id=>
  intro c Q s hc h ρ₀ ls₀ h₀ w₀ ρ ls a w ev rel;simp[sN]at hc;subst hc;exact wp_exit ⟨s,ρ,ls,rel,ev,h⟩
 | ret=>
  intro c Q s hc h ρ₀ ls₀ h₀ w₀ ρ ls a w ev rel;simp[sN]at hc;subst hc;exact wp_ret ⟨s,ρ,ls,rel,ev,h⟩
 | _=>intro c Q s hc;simp[sN]at hc
theorem TC.T3(tab:iO P Θ)(gl:Gl){c:C}{Q:AE→St→Prop}{s:St}(h:yl P Θ Γ gl c Q s):TC P Θ Γ c Q s:=
 fun code hc=>Dz tab gl code c Q s hc h
end
end Go.AM
