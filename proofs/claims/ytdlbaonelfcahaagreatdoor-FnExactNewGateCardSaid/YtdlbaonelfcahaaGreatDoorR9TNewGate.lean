import Derived.Test.YtdlbaonelfcahaaGreatDoorCards
import Derived.Test.YtdlbaonelfcahaaGreatDoorTie
import Derived.WalkKit
import Derived.ProofKit
import Derived.OpenShut
import Derived.LaidMore
import Derived.Lay
import Derived.SevenTiedAt
import Derived.Stop.Joined
import Derived.Stop.LaidErr
import Derived.Test.YtdlbaonelfcahaaGreatDoorAmG7
import Derived.Shelf.Vars
import Derived.Handed
import Derived.Test.YtdlbaonelfcahaaGreatDoorAmG11
import Derived.Test.YtdlbaonelfcahaaGreatDoorR6G22
set_option linter.unusedVariables false
set_option linter.unusedSimpArgs false
/- The law FnExactNewGate returns true, its arguments and the names of the operations read behind the call zas before. Conditions: none beyond the given card's (eight variables hold what the program's text lays, tied; one of them by the form's pinned constant). -/
namespace Go.Proofs.YtdlbaonelfcahaaGreatDoor
open Go.AM
open Go.ChangeShapes Go.WideShapes Go.ChangeAt Go.RowKit
theorem own:ownKnob Tryz.prog.godebug=none:=by kernel_rfl
theorem Ao{P:Program}{w:World}{g:Nat}{t:TypeId}{zero:Array Value}{k:IntKind}(h:w.ShapedOpen P)(hg:g<P.globals.size)
    (h0:((begin P (fun _ _=>0) default).world.heap[g]?).bind Obj.row? = some (zero,t)) (hz:zero.size=1)
    (hb:P.buildable t=true) (hc:P.cellTypes P.depth t=some [t]) (hu:P.underlying t=some (.int k)):∃m T fr,w.heap[g]? = some (.cells #[.int k m] T fr):=by
  obtain⟨m,hm⟩:=Go.Proofs.cell_of_shapedOpen_int h hg h0 hz hb hc hu
  obtain⟨cs,hh,hs,_⟩:=h.1 g zero t hg h0
  rw[Go.AM.cell_of hh]at hm
  refine⟨m,t,(0,0),?_⟩
  rw[hh]
  congr 2
  apply Array.ext
  · simp;omega
  · intro i h1 h2
    have:i=0:=by simp at h2;omega
    subst this
    rw[Array.getElem?_eq_getElem h1]at hm
    simpa using hm
theorem nW{H:Type}{enc:TypeId×Value→H}{a:Assume}{C:Checked}{os:Os}{f:FuncId}{fn:Func}{s:ChangeSpec}{conds:List PathCond}{apart fresh handsOn again:Bool}{X:World→Array Value→Prop}
    (hX:∀(w w':World) (args:Array Value),w.heap=w'.heap→X w args→X w' args)
    (own:ownKnob C.prog.godebug=none) (started:os.Started) (noInit:C.prog.inits.idxOf? f=none) (hfn:C.prog.funcs[f]? = some fn)
    (witness:∃(w:World) (tape:Tape) (i:Input),w.os=os∧(w.forCall tape i).Shaped C.prog∧i.vars=[]∧Input.okWide C.prog (w.forCall tape i) .any w.heap.size f i∧
      ((s.pre enc C.prog fn conds apart (w.forCall tape i).memory i.args∧X (w.forCall tape i).memory i.args)∧sizedMet enc C.prog fn (OpenSpec.ofChange s) apart (w.forCall tape i).memory i.args)∧a.holds C.prog (lone (Frame.enter C.prog f i.args .normal) [] (w.forCall tape i)))
    (contract:∀(W:World) (base:Nat) (args:Array Value) (ds gs:List (DataW H)) (before:List MemPlace),W.ShapedOpen C.prog→
      (∀(j:Nat) t v,fn.params[j]? = some t→args[j]? = some v→Value.okWide C.prog W .any base t v)→
      DataW.Whole enc C.prog fn.params.toList s.vars apart W args.toList ds gs before→X W args→
      Calls C.prog f args W fun e W'=>∃v,e=.returned v∧s.post enc C.prog fn apart fresh handsOn again W args v W'):
    ReturnsInHanded a C os f .any (fun w args=>(s.pre enc C.prog fn conds apart w args∧X w args)∧sizedMet enc C.prog fn (OpenSpec.ofChange s) apart w args) (s.post enc C.prog fn apart fresh handsOn again):=by
  refine returnsInHanded_of_calls own started noInit witness ?_
  intro w tape i _ hsh _ hok hpre hholds
  obtain⟨_,_,_,fn',hfn',_,_,_,_,hval⟩:=hok
  have e:fn'=fn:=Option.some.inj (hfn'.symm.trans hfn)
  subst e
  obtain⟨⟨⟨ds,gs,before,hw,hc⟩,hx⟩,hz⟩:=hpre
  have hw':=DataW.Whole.of_heap (w':=w.forCall tape i) (by rfl) hw
  refine(contract (w.forCall tape i) w.heap.size i.args ds gs before hsh hval hw' (hX _ _ _ (by rfl) hx)).mono fun e W' ⟨v,he,hp⟩=>?_
  subst he
  exact ChangeSpec.post_blind hp
theorem BX:Lib.pow10Tab=[1,10,100,1000,10000,100000,1000000,10000000,100000000,1000000000,10000000000,100000000000,1000000000000,10000000000000,100000000000000,1000000000000000,10000000000000000,100000000000000000,1000000000000000000,10000000000000000000]:=by decide +kernel
theorem xY{H:Type}:(Rows.laid_internal_strconv_uint64pow10:DataW H)=Lib.tabData .u64 Lib.pow10Tab:=by
  rw[BX];rfl
theorem BN{W:World}{r:List (String×DataW Unit)}(h:laidMet Tryz.prog (("internal/strconv.uint64pow10",Rows.laid_internal_strconv_uint64pow10)::r) W):Lib.TabIs Tryz.prog W "internal/strconv.uint64pow10" .u64 Lib.pow10Tab:=by
  rw[xY]at h
  exact Lib.tabIs_of_head ua (show(Tryz.prog.globals[6]?).map (·.type)=some 290 by kernel_rfl) Tryz.underlying290 (show Tryz.prog.underlying 261=some (.int .u64)by kernel_rfl) (show Tryz.prog.cellsOf 261=1 by kernel_rfl) (show Tryz.prog.cellsOf 290=20 by kernel_rfl) h
theorem pM{P:Program}{n nm:String}{D:DataW Unit}{r:List (String×DataW Unit)}{W:World}{g:Nat}{ti:TypeId}{ms:Array (String×TypeId)}
    (h:laidMet P ((n,.iface nm D)::r) W) (hg:P.globalNamed n=some g) (ht:(P.globals[g]?).map (·.type)=some ti) (hi:P.underlying ti=some (.interface ms)):
    ∃t p T fr,W.heap[g]? = some (.cells #[.iface t p] T fr):=by
  obtain⟨ps,⟨g0,t0,cs0,f0,p0,q0,hg0,ht0,hv0,hd0,_,e0⟩,_,hrows⟩:=h
  obtain rfl:=Option.some.inj (hg.symm.trans hg0)
  obtain rfl:=Option.some.inj (ht.symm.trans ht0)
  obtain⟨f1,t,p,hcs,_⟩:=iface_of_trod hi hd0
  obtain rfl:cs0=#[.iface t p]:=Array.toList_inj.1 hcs
  unfold World.var? at hv0
  rw[hg]at hv0
  simp only[Option.bind_some]at hv0
  split at hv0
  · rename_i cs T fr hh
    injection hv0 with hv0
    subst hv0
    exact⟨t,p,T,fr,hh⟩
  · cases hv0
def Γq(t1:TypeId)(p1:Value)(t2:TypeId)(p2:Value)(m:Int):bG:=fun g=>if g=KP then some (Lib.pow10Tab.map (AV.int .u64))else if g=2 then some [.opq (.iface t1 p1)]else if g=3 then some [.opq (.iface t2 p2)]else if g=1 then some [.opq (.int .i64 m)]else if g=0 then some (opsL.map AV.str)else none
theorem Qr(t1:TypeId)(p1:Value)(t2:TypeId)(p2:Value)(m:Int):ik (Γq t1 p1 t2 p2 m):=⟨rfl,⟨t1,p1,rfl⟩,⟨t2,p2,rfl⟩,⟨m,rfl⟩,rfl⟩
def DY:List (List UInt8):=(List.range 11).map iT
theorem KO:opsL.map AV.str=DY.map fun z=>AV.str ⟨z.toArray⟩:=rfl
theorem AJ{H:Type}:(Rows.laid_loop_example_g00591_impl_opNames:DataW H)=Ee DY:=rfl
theorem QS{W:World}{t1 t2 T1 T2 T3:TypeId}{p1 p2:Value}{f1 f2 f3:Nat×Nat}{m:Int}(h:Lib.TabIs Tryz.prog W "internal/strconv.uint64pow10" .u64 Lib.pow10Tab)(h1:W.heap[2]? = some (.cells #[.iface t1 p1] T1 f1))(h2:W.heap[3]? = some (.cells #[.iface t2 p2] T2 f2))(h3:W.heap[1]? = some (.cells #[.int .i64 m] T3 f3))
    (h4:∃arr,(cE W).imm false 0=some arr∧fk (cE W) [] arr 0 (DY.map fun z=>AV.str ⟨z.toArray⟩)∧arr.size=(DY.map fun z=>AV.str ⟨z.toArray⟩).length):
    uu (Γq t1 p1 t2 p2 m) (cE W):=by
  intro g cs e
  unfold Γq at e
  split at e
  · rename_i hg
    subst hg
    injection e with e
    subst e
    exact Ep ua h
  split at e
  · rename_i hg
    subst hg
    injection e with e
    subst e
    exact uX h1
  split at e
  · rename_i hg
    subst hg
    injection e with e
    subst e
    exact uX h2
  split at e
  · rename_i hg
    subst hg
    injection e with e
    subst e
    exact uX h3
  split at e
  · rename_i hg
    subst hg
    injection e with e
    subst e
    rw[KO]
    exact h4
  · cases e
noncomputable def MM:Array Field:=match Tryz.prog.underlying 67 with|some (.struct fs)=>fs|_=>#[]
noncomputable def Qq:Array Field:=match Tryz.prog.underlying 73 with|some (.struct fs)=>fs|_=>#[]
noncomputable def Rq:Array Field:=match Tryz.prog.underlying 75 with|some (.struct fs)=>fs|_=>#[]
noncomputable def KG:Array Field:=match Tryz.prog.underlying 201 with|some (.struct fs)=>fs|_=>#[]
noncomputable def Om:Array Field:=match Tryz.prog.underlying 70 with|some (.struct fs)=>fs|_=>#[]
noncomputable def KY:Array Field:=match Tryz.prog.underlying 203 with|some (.struct fs)=>fs|_=>#[]
noncomputable def J9:Array Field:=match Tryz.prog.underlying 205 with|some (.struct fs)=>fs|_=>#[]
noncomputable def L3:Array Field:=match Tryz.prog.underlying 80 with|some (.struct fs)=>fs|_=>#[]
noncomputable def T7:Array Field:=match Tryz.prog.underlying 83 with|some (.struct fs)=>fs|_=>#[]
noncomputable def SG:Array Field:=match Tryz.prog.underlying 85 with|some (.struct fs)=>fs|_=>#[]
noncomputable def Nn:Array Field:=match Tryz.prog.underlying 87 with|some (.struct fs)=>fs|_=>#[]
noncomputable def Rh:Array Field:=match Tryz.prog.underlying 27 with|some (.struct fs)=>fs|_=>#[]
structure fe (P:Program) (f67 f73 f75 f201 f70 f203 f205 f80 f83 f85 f87 f27:Array Field):Prop where
  und3:P.underlying 3=some (.int .i64)
  und67:P.underlying 67=some (.struct f67)
  fls67:f67.toList.map (·.type)=[3,3]
  und66:P.underlying 66=some (.slice 67)
  cel67:P.cellsOf 67=2
  und9:P.underlying 9=some .string
  und73:P.underlying 73=some (.struct f73)
  fls73:f73.toList.map (·.type)=[3,3,3]
  und75:P.underlying 75=some (.struct f75)
  fls75:f75.toList.map (·.type)=[3,9,66,3,73]
  und23:P.underlying 23=some (.slice 75)
  cel75:P.cellsOf 75=7
  und201:P.underlying 201=some (.struct f201)
  fls201:f201.toList.map (·.type)=[3,3]
  und68:P.underlying 68=some (.slice 201)
  cel201:P.cellsOf 201=2
  und70:P.underlying 70=some (.struct f70)
  fls70:f70.toList.map (·.type)=[3,3,66,3,67,23,68,3,3,3,3]
  und22:P.underlying 22=some (.slice 70)
  cel70:P.cellsOf 70=12
  und4:P.underlying 4=some .bool
  und203:P.underlying 203=some (.struct f203)
  fls203:f203.toList.map (·.type)=[3,3,3]
  und77:P.underlying 77=some (.slice 203)
  cel203:P.cellsOf 203=3
  und205:P.underlying 205=some (.struct f205)
  fls205:f205.toList.map (·.type)=[3,3]
  und78:P.underlying 78=some (.slice 205)
  cel205:P.cellsOf 205=2
  und80:P.underlying 80=some (.struct f80)
  fls80:f80.toList.map (·.type)=[3,4,77,3,78,3,78]
  und24:P.underlying 24=some (.slice 80)
  cel80:P.cellsOf 80=7
  und83:P.underlying 83=some (.struct f83)
  fls83:f83.toList.map (·.type)=[3,3]
  und82:P.underlying 82=some (.slice 83)
  cel83:P.cellsOf 83=2
  und85:P.underlying 85=some (.struct f85)
  fls85:f85.toList.map (·.type)=[3,3,3,3,9,82,83,3,73]
  und87:P.underlying 87=some (.struct f87)
  fls87:f87.toList.map (·.type)=[3,85]
  und25:P.underlying 25=some (.slice 87)
  cel87:P.cellsOf 87=13
  und27:P.underlying 27=some (.struct f27)
  fls27:f27.toList.map (·.type)=[3,22,23,24,25]
theorem Jv{P:Program}{f67 f73 f75 f201 f70 f203 f205 f80 f83 f85 f87 f27:Array Field}(F:fe P f67 f73 f75 f201 f70 f203 f205 f80 f83 f85 f87 f27){n:Nat}{d:bN}(h:bN.ok P (n+2) 67 d):∃x:ae,d.cells=x.c false:=by
  obtain⟨ds,rfl,hh⟩:=c7 F.und67 h
  rw[F.fls67]at hh
  obtain⟨d0,ds,rfl,k0,hh⟩:=aY.cons hh
  obtain⟨d1,ds,rfl,k1,hh⟩:=aY.cons hh
  obtain rfl:=aY.nil hh
  obtain⟨x0,rfl,_⟩:=bQ F.und3 k0
  obtain⟨x1,rfl,_⟩:=bQ F.und3 k1
  exact⟨⟨x0,x1⟩,by simp[bN.cells,bN.eY,ae.c]⟩
theorem Fc{P:Program}{f67 f73 f75 f201 f70 f203 f205 f80 f83 f85 f87 f27:Array Field}(F:fe P f67 f73 f75 f201 f70 f203 f205 f80 f83 f85 f87 f27){n:Nat}{d:bN}(h:bN.ok P (n+3) 66 d):∃l:List ae,d.av=.vs false 2 false (l.map (ae.c false))∧d.cells=[.vs false 2 false (l.map (ae.c false))]∧l.length≤maxLen:=by
  obtain⟨xs,rfl,hm,hx⟩:=jk F.und66 h
  obtain⟨zs,e1,e2,e3⟩:=ey (ae.c false) (fun _=>True) (fun d hd=>by have:=Jv F hd;obtain⟨x,hx⟩:=this;exact⟨x,hx,trivial⟩) hx
  exact⟨zs,by simp only[bN.av,AM.sl,F.cel67,e2],by simp only[bN.cells,AM.sl,F.cel67,e2],by omega⟩
theorem Hr{P:Program}{f67 f73 f75 f201 f70 f203 f205 f80 f83 f85 f87 f27:Array Field}(F:fe P f67 f73 f75 f201 f70 f203 f205 f80 f83 f85 f87 f27){n:Nat}{d:bN}(h:bN.ok P (n+2) 73 d):∃x:fc,d.cells=x.c false:=by
  obtain⟨ds,rfl,hh⟩:=c7 F.und73 h
  rw[F.fls73]at hh
  obtain⟨d0,ds,rfl,k0,hh⟩:=aY.cons hh
  obtain⟨d1,ds,rfl,k1,hh⟩:=aY.cons hh
  obtain⟨d2,ds,rfl,k2,hh⟩:=aY.cons hh
  obtain rfl:=aY.nil hh
  obtain⟨x0,rfl,_⟩:=bQ F.und3 k0
  obtain⟨x1,rfl,_⟩:=bQ F.und3 k1
  obtain⟨x2,rfl,_⟩:=bQ F.und3 k2
  exact⟨⟨x0,x1,x2⟩,by simp[bN.cells,bN.eY,fc.c]⟩
theorem S1{P:Program}{f67 f73 f75 f201 f70 f203 f205 f80 f83 f85 f87 f27:Array Field}(F:fe P f67 f73 f75 f201 f70 f203 f205 f80 f83 f85 f87 f27){n:Nat}{d:bN}(h:bN.ok P (n+4) 75 d):∃x:aA,d.cells=x.c false∧x.ok maxLen:=by
  obtain⟨ds,rfl,hh⟩:=c7 F.und75 h
  rw[F.fls75]at hh
  obtain⟨d0,ds,rfl,k0,hh⟩:=aY.cons hh
  obtain⟨d1,ds,rfl,k1,hh⟩:=aY.cons hh
  obtain⟨d2,ds,rfl,k2,hh⟩:=aY.cons hh
  obtain⟨d3,ds,rfl,k3,hh⟩:=aY.cons hh
  obtain⟨d4,ds,rfl,k4,hh⟩:=aY.cons hh
  obtain rfl:=aY.nil hh
  obtain⟨x0,rfl,_⟩:=bQ F.und3 k0
  obtain⟨x1,rfl,q1⟩:=zx F.und9 k1
  obtain⟨x2,_,e2,q2⟩:=Fc F k2
  obtain⟨x3,rfl,_⟩:=bQ F.und3 k3
  obtain⟨x4,e4⟩:=Hr F k4
  exact⟨⟨x0,x1,x2,x3,x4⟩,by simp[bN.cells,bN.eY,e2,e4,aA.c,fc.c],⟨q1,q2⟩⟩
theorem JN{P:Program}{f67 f73 f75 f201 f70 f203 f205 f80 f83 f85 f87 f27:Array Field}(F:fe P f67 f73 f75 f201 f70 f203 f205 f80 f83 f85 f87 f27){n:Nat}{d:bN}(h:bN.ok P (n+5) 23 d):∃l:List aA,d.av=.vs false 7 false (l.map (aA.c false))∧d.cells=[.vs false 7 false (l.map (aA.c false))]∧l.length≤maxLen∧∀x∈l,x.ok maxLen:=by
  obtain⟨xs,rfl,hm,hx⟩:=jk F.und23 h
  obtain⟨zs,e1,e2,e3⟩:=ey (aA.c false) (aA.ok maxLen) (fun d hd=>by have:=S1 F hd;exact this) hx
  exact⟨zs,by simp only[bN.av,AM.sl,F.cel75,e2],by simp only[bN.cells,AM.sl,F.cel75,e2],by omega,e3⟩
theorem KM{P:Program}{f67 f73 f75 f201 f70 f203 f205 f80 f83 f85 f87 f27:Array Field}(F:fe P f67 f73 f75 f201 f70 f203 f205 f80 f83 f85 f87 f27){n:Nat}{d:bN}(h:bN.ok P (n+2) 201 d):∃x:aH,d.cells=x.c false:=by
  obtain⟨ds,rfl,hh⟩:=c7 F.und201 h
  rw[F.fls201]at hh
  obtain⟨d0,ds,rfl,k0,hh⟩:=aY.cons hh
  obtain⟨d1,ds,rfl,k1,hh⟩:=aY.cons hh
  obtain rfl:=aY.nil hh
  obtain⟨x0,rfl,_⟩:=bQ F.und3 k0
  obtain⟨x1,rfl,_⟩:=bQ F.und3 k1
  exact⟨⟨x0,x1⟩,by simp[bN.cells,bN.eY,aH.c]⟩
theorem Us{P:Program}{f67 f73 f75 f201 f70 f203 f205 f80 f83 f85 f87 f27:Array Field}(F:fe P f67 f73 f75 f201 f70 f203 f205 f80 f83 f85 f87 f27){n:Nat}{d:bN}(h:bN.ok P (n+3) 68 d):∃l:List aH,d.av=.vs false 2 false (l.map (aH.c false))∧d.cells=[.vs false 2 false (l.map (aH.c false))]∧l.length≤maxLen:=by
  obtain⟨xs,rfl,hm,hx⟩:=jk F.und68 h
  obtain⟨zs,e1,e2,e3⟩:=ey (aH.c false) (fun _=>True) (fun d hd=>by have:=KM F hd;obtain⟨x,hx⟩:=this;exact⟨x,hx,trivial⟩) hx
  exact⟨zs,by simp only[bN.av,AM.sl,F.cel201,e2],by simp only[bN.cells,AM.sl,F.cel201,e2],by omega⟩
theorem Mj{P:Program}{f67 f73 f75 f201 f70 f203 f205 f80 f83 f85 f87 f27:Array Field}(F:fe P f67 f73 f75 f201 f70 f203 f205 f80 f83 f85 f87 f27){n:Nat}{d:bN}(h:bN.ok P (n+6) 70 d):∃x:an,d.cells=x.c false∧x.ok maxLen:=by
  obtain⟨ds,rfl,hh⟩:=c7 F.und70 h
  rw[F.fls70]at hh
  obtain⟨d0,ds,rfl,k0,hh⟩:=aY.cons hh
  obtain⟨d1,ds,rfl,k1,hh⟩:=aY.cons hh
  obtain⟨d2,ds,rfl,k2,hh⟩:=aY.cons hh
  obtain⟨d3,ds,rfl,k3,hh⟩:=aY.cons hh
  obtain⟨d4,ds,rfl,k4,hh⟩:=aY.cons hh
  obtain⟨d5,ds,rfl,k5,hh⟩:=aY.cons hh
  obtain⟨d6,ds,rfl,k6,hh⟩:=aY.cons hh
  obtain⟨d7,ds,rfl,k7,hh⟩:=aY.cons hh
  obtain⟨d8,ds,rfl,k8,hh⟩:=aY.cons hh
  obtain⟨d9,ds,rfl,k9,hh⟩:=aY.cons hh
  obtain⟨d10,ds,rfl,k10,hh⟩:=aY.cons hh
  obtain rfl:=aY.nil hh
  obtain⟨x0,rfl,_⟩:=bQ F.und3 k0
  obtain⟨x1,rfl,_⟩:=bQ F.und3 k1
  obtain⟨x2,_,e2,q2⟩:=Fc F k2
  obtain⟨x3,rfl,_⟩:=bQ F.und3 k3
  obtain⟨x4,e4⟩:=Jv F k4
  obtain⟨x5,_,e5,q5,r5⟩:=JN F k5
  obtain⟨x6,_,e6,q6⟩:=Us F k6
  obtain⟨x7,rfl,_⟩:=bQ F.und3 k7
  obtain⟨x8,rfl,_⟩:=bQ F.und3 k8
  obtain⟨x9,rfl,_⟩:=bQ F.und3 k9
  obtain⟨x10,rfl,_⟩:=bQ F.und3 k10
  exact⟨⟨x0,x1,x2,x3,x4,x5,x6,x7,x8,x9,x10⟩,by simp[bN.cells,bN.eY,e2,e4,e5,e6,an.c,ae.c],⟨q2,q5,r5,q6⟩⟩
theorem Tq{P:Program}{f67 f73 f75 f201 f70 f203 f205 f80 f83 f85 f87 f27:Array Field}(F:fe P f67 f73 f75 f201 f70 f203 f205 f80 f83 f85 f87 f27){n:Nat}{d:bN}(h:bN.ok P (n+7) 22 d):∃l:List an,d.av=.vs false 12 false (l.map (an.c false))∧d.cells=[.vs false 12 false (l.map (an.c false))]∧l.length≤maxLen∧∀x∈l,x.ok maxLen:=by
  obtain⟨xs,rfl,hm,hx⟩:=jk F.und22 h
  obtain⟨zs,e1,e2,e3⟩:=ey (an.c false) (an.ok maxLen) (fun d hd=>by have:=Mj F hd;exact this) hx
  exact⟨zs,by simp only[bN.av,AM.sl,F.cel70,e2],by simp only[bN.cells,AM.sl,F.cel70,e2],by omega,e3⟩
theorem KB{P:Program}{f67 f73 f75 f201 f70 f203 f205 f80 f83 f85 f87 f27:Array Field}(F:fe P f67 f73 f75 f201 f70 f203 f205 f80 f83 f85 f87 f27){n:Nat}{d:bN}(h:bN.ok P (n+2) 203 d):∃x:aD,d.cells=x.c false:=by
  obtain⟨ds,rfl,hh⟩:=c7 F.und203 h
  rw[F.fls203]at hh
  obtain⟨d0,ds,rfl,k0,hh⟩:=aY.cons hh
  obtain⟨d1,ds,rfl,k1,hh⟩:=aY.cons hh
  obtain⟨d2,ds,rfl,k2,hh⟩:=aY.cons hh
  obtain rfl:=aY.nil hh
  obtain⟨x0,rfl,_⟩:=bQ F.und3 k0
  obtain⟨x1,rfl,_⟩:=bQ F.und3 k1
  obtain⟨x2,rfl,_⟩:=bQ F.und3 k2
  exact⟨⟨x0,x1,x2⟩,by simp[bN.cells,bN.eY,aD.c]⟩
theorem Rt{P:Program}{f67 f73 f75 f201 f70 f203 f205 f80 f83 f85 f87 f27:Array Field}(F:fe P f67 f73 f75 f201 f70 f203 f205 f80 f83 f85 f87 f27){n:Nat}{d:bN}(h:bN.ok P (n+3) 77 d):∃l:List aD,d.av=.vs false 3 false (l.map (aD.c false))∧d.cells=[.vs false 3 false (l.map (aD.c false))]∧l.length≤maxLen:=by
  obtain⟨xs,rfl,hm,hx⟩:=jk F.und77 h
  obtain⟨zs,e1,e2,e3⟩:=ey (aD.c false) (fun _=>True) (fun d hd=>by have:=KB F hd;obtain⟨x,hx⟩:=this;exact⟨x,hx,trivial⟩) hx
  exact⟨zs,by simp only[bN.av,AM.sl,F.cel203,e2],by simp only[bN.cells,AM.sl,F.cel203,e2],by omega⟩
theorem KJ{P:Program}{f67 f73 f75 f201 f70 f203 f205 f80 f83 f85 f87 f27:Array Field}(F:fe P f67 f73 f75 f201 f70 f203 f205 f80 f83 f85 f87 f27){n:Nat}{d:bN}(h:bN.ok P (n+2) 205 d):∃x:ak,d.cells=x.c false:=by
  obtain⟨ds,rfl,hh⟩:=c7 F.und205 h
  rw[F.fls205]at hh
  obtain⟨d0,ds,rfl,k0,hh⟩:=aY.cons hh
  obtain⟨d1,ds,rfl,k1,hh⟩:=aY.cons hh
  obtain rfl:=aY.nil hh
  obtain⟨x0,rfl,_⟩:=bQ F.und3 k0
  obtain⟨x1,rfl,_⟩:=bQ F.und3 k1
  exact⟨⟨x0,x1⟩,by simp[bN.cells,bN.eY,ak.c]⟩
theorem EI{P:Program}{f67 f73 f75 f201 f70 f203 f205 f80 f83 f85 f87 f27:Array Field}(F:fe P f67 f73 f75 f201 f70 f203 f205 f80 f83 f85 f87 f27){n:Nat}{d:bN}(h:bN.ok P (n+3) 78 d):∃l:List ak,d.av=.vs false 2 false (l.map (ak.c false))∧d.cells=[.vs false 2 false (l.map (ak.c false))]∧l.length≤maxLen:=by
  obtain⟨xs,rfl,hm,hx⟩:=jk F.und78 h
  obtain⟨zs,e1,e2,e3⟩:=ey (ak.c false) (fun _=>True) (fun d hd=>by have:=KJ F hd;obtain⟨x,hx⟩:=this;exact⟨x,hx,trivial⟩) hx
  exact⟨zs,by simp only[bN.av,AM.sl,F.cel205,e2],by simp only[bN.cells,AM.sl,F.cel205,e2],by omega⟩
theorem Sn{P:Program}{f67 f73 f75 f201 f70 f203 f205 f80 f83 f85 f87 f27:Array Field}(F:fe P f67 f73 f75 f201 f70 f203 f205 f80 f83 f85 f87 f27){n:Nat}{d:bN}(h:bN.ok P (n+4) 80 d):∃x:aM,d.cells=x.c false∧x.ok maxLen:=by
  obtain⟨ds,rfl,hh⟩:=c7 F.und80 h
  rw[F.fls80]at hh
  obtain⟨d0,ds,rfl,k0,hh⟩:=aY.cons hh
  obtain⟨d1,ds,rfl,k1,hh⟩:=aY.cons hh
  obtain⟨d2,ds,rfl,k2,hh⟩:=aY.cons hh
  obtain⟨d3,ds,rfl,k3,hh⟩:=aY.cons hh
  obtain⟨d4,ds,rfl,k4,hh⟩:=aY.cons hh
  obtain⟨d5,ds,rfl,k5,hh⟩:=aY.cons hh
  obtain⟨d6,ds,rfl,k6,hh⟩:=aY.cons hh
  obtain rfl:=aY.nil hh
  obtain⟨x0,rfl,_⟩:=bQ F.und3 k0
  obtain⟨x1,rfl⟩:=Bs F.und4 k1
  obtain⟨x2,_,e2,q2⟩:=Rt F k2
  obtain⟨x3,rfl,_⟩:=bQ F.und3 k3
  obtain⟨x4,_,e4,q4⟩:=EI F k4
  obtain⟨x5,rfl,_⟩:=bQ F.und3 k5
  obtain⟨x6,_,e6,q6⟩:=EI F k6
  exact⟨⟨x0,x1,x2,x3,x4,x5,x6⟩,by simp[bN.cells,bN.eY,e2,e4,e6,aM.c],⟨q2,q4,q6⟩⟩
theorem PS{P:Program}{f67 f73 f75 f201 f70 f203 f205 f80 f83 f85 f87 f27:Array Field}(F:fe P f67 f73 f75 f201 f70 f203 f205 f80 f83 f85 f87 f27){n:Nat}{d:bN}(h:bN.ok P (n+5) 24 d):∃l:List aM,d.av=.vs false 7 false (l.map (aM.c false))∧d.cells=[.vs false 7 false (l.map (aM.c false))]∧l.length≤maxLen∧∀x∈l,x.ok maxLen:=by
  obtain⟨xs,rfl,hm,hx⟩:=jk F.und24 h
  obtain⟨zs,e1,e2,e3⟩:=ey (aM.c false) (aM.ok maxLen) (fun d hd=>by have:=Sn F hd;exact this) hx
  exact⟨zs,by simp only[bN.av,AM.sl,F.cel80,e2],by simp only[bN.cells,AM.sl,F.cel80,e2],by omega,e3⟩
theorem JB{P:Program}{f67 f73 f75 f201 f70 f203 f205 f80 f83 f85 f87 f27:Array Field}(F:fe P f67 f73 f75 f201 f70 f203 f205 f80 f83 f85 f87 f27){n:Nat}{d:bN}(h:bN.ok P (n+2) 83 d):∃x:aL,d.cells=x.c false:=by
  obtain⟨ds,rfl,hh⟩:=c7 F.und83 h
  rw[F.fls83]at hh
  obtain⟨d0,ds,rfl,k0,hh⟩:=aY.cons hh
  obtain⟨d1,ds,rfl,k1,hh⟩:=aY.cons hh
  obtain rfl:=aY.nil hh
  obtain⟨x0,rfl,_⟩:=bQ F.und3 k0
  obtain⟨x1,rfl,_⟩:=bQ F.und3 k1
  exact⟨⟨x0,x1⟩,by simp[bN.cells,bN.eY,aL.c]⟩
theorem QF{P:Program}{f67 f73 f75 f201 f70 f203 f205 f80 f83 f85 f87 f27:Array Field}(F:fe P f67 f73 f75 f201 f70 f203 f205 f80 f83 f85 f87 f27){n:Nat}{d:bN}(h:bN.ok P (n+3) 82 d):∃l:List aL,d.av=.vs false 2 false (l.map (aL.c false))∧d.cells=[.vs false 2 false (l.map (aL.c false))]∧l.length≤maxLen:=by
  obtain⟨xs,rfl,hm,hx⟩:=jk F.und82 h
  obtain⟨zs,e1,e2,e3⟩:=ey (aL.c false) (fun _=>True) (fun d hd=>by have:=JB F hd;obtain⟨x,hx⟩:=this;exact⟨x,hx,trivial⟩) hx
  exact⟨zs,by simp only[bN.av,AM.sl,F.cel83,e2],by simp only[bN.cells,AM.sl,F.cel83,e2],by omega⟩
theorem Pj{P:Program}{f67 f73 f75 f201 f70 f203 f205 f80 f83 f85 f87 f27:Array Field}(F:fe P f67 f73 f75 f201 f70 f203 f205 f80 f83 f85 f87 f27){n:Nat}{d:bN}(h:bN.ok P (n+4) 85 d):∃x:aR,d.cells=x.c false∧x.ok maxLen:=by
  obtain⟨ds,rfl,hh⟩:=c7 F.und85 h
  rw[F.fls85]at hh
  obtain⟨d0,ds,rfl,k0,hh⟩:=aY.cons hh
  obtain⟨d1,ds,rfl,k1,hh⟩:=aY.cons hh
  obtain⟨d2,ds,rfl,k2,hh⟩:=aY.cons hh
  obtain⟨d3,ds,rfl,k3,hh⟩:=aY.cons hh
  obtain⟨d4,ds,rfl,k4,hh⟩:=aY.cons hh
  obtain⟨d5,ds,rfl,k5,hh⟩:=aY.cons hh
  obtain⟨d6,ds,rfl,k6,hh⟩:=aY.cons hh
  obtain⟨d7,ds,rfl,k7,hh⟩:=aY.cons hh
  obtain⟨d8,ds,rfl,k8,hh⟩:=aY.cons hh
  obtain rfl:=aY.nil hh
  obtain⟨x0,rfl,_⟩:=bQ F.und3 k0
  obtain⟨x1,rfl,_⟩:=bQ F.und3 k1
  obtain⟨x2,rfl,_⟩:=bQ F.und3 k2
  obtain⟨x3,rfl,_⟩:=bQ F.und3 k3
  obtain⟨x4,rfl,q4⟩:=zx F.und9 k4
  obtain⟨x5,_,e5,q5⟩:=QF F k5
  obtain⟨x6,e6⟩:=JB F k6
  obtain⟨x7,rfl,_⟩:=bQ F.und3 k7
  obtain⟨x8,e8⟩:=Hr F k8
  exact⟨⟨x0,x1,x2,x3,x4,x5,x6,x7,x8⟩,by simp[bN.cells,bN.eY,e5,e6,e8,aR.c,fc.c,aL.c],⟨q4,q5⟩⟩
theorem OV{P:Program}{f67 f73 f75 f201 f70 f203 f205 f80 f83 f85 f87 f27:Array Field}(F:fe P f67 f73 f75 f201 f70 f203 f205 f80 f83 f85 f87 f27){n:Nat}{d:bN}(h:bN.ok P (n+5) 87 d):∃x:aj,d.cells=x.c false∧x.ok maxLen:=by
  obtain⟨ds,rfl,hh⟩:=c7 F.und87 h
  rw[F.fls87]at hh
  obtain⟨d0,ds,rfl,k0,hh⟩:=aY.cons hh
  obtain⟨d1,ds,rfl,k1,hh⟩:=aY.cons hh
  obtain rfl:=aY.nil hh
  obtain⟨x0,rfl,_⟩:=bQ F.und3 k0
  obtain⟨x1,e1,q1⟩:=Pj F k1
  exact⟨⟨x0,x1⟩,by simp[bN.cells,bN.eY,e1,aj.c,aR.c],q1⟩
theorem So{P:Program}{f67 f73 f75 f201 f70 f203 f205 f80 f83 f85 f87 f27:Array Field}(F:fe P f67 f73 f75 f201 f70 f203 f205 f80 f83 f85 f87 f27){n:Nat}{d:bN}(h:bN.ok P (n+6) 25 d):∃l:List aj,d.av=.vs false 13 false (l.map (aj.c false))∧d.cells=[.vs false 13 false (l.map (aj.c false))]∧l.length≤maxLen∧∀x∈l,x.ok maxLen:=by
  obtain⟨xs,rfl,hm,hx⟩:=jk F.und25 h
  obtain⟨zs,e1,e2,e3⟩:=ey (aj.c false) (aj.ok maxLen) (fun d hd=>by have:=OV F hd;exact this) hx
  exact⟨zs,by simp only[bN.av,AM.sl,F.cel87,e2],by simp only[bN.cells,AM.sl,F.cel87,e2],by omega,e3⟩
theorem M9{P:Program}{f67 f73 f75 f201 f70 f203 f205 f80 f83 f85 f87 f27:Array Field}(F:fe P f67 f73 f75 f201 f70 f203 f205 f80 f83 f85 f87 f27){n:Nat}{d:bN}(h:bN.ok P (n+8) 27 d):∃x:aS,d.cells=x.c false∧x.ok maxLen:=by
  obtain⟨ds,rfl,hh⟩:=c7 F.und27 h
  rw[F.fls27]at hh
  obtain⟨d0,ds,rfl,k0,hh⟩:=aY.cons hh
  obtain⟨d1,ds,rfl,k1,hh⟩:=aY.cons hh
  obtain⟨d2,ds,rfl,k2,hh⟩:=aY.cons hh
  obtain⟨d3,ds,rfl,k3,hh⟩:=aY.cons hh
  obtain⟨d4,ds,rfl,k4,hh⟩:=aY.cons hh
  obtain rfl:=aY.nil hh
  obtain⟨x0,rfl,_⟩:=bQ F.und3 k0
  obtain⟨x1,_,e1,q1,r1⟩:=Tq F k1
  obtain⟨x2,_,e2,q2,r2⟩:=JN F k2
  obtain⟨x3,_,e3,q3,r3⟩:=PS F k3
  obtain⟨x4,_,e4,q4,r4⟩:=So F k4
  exact⟨⟨x0,x1,x2,x3,x4⟩,by simp[bN.cells,bN.eY,e1,e2,e3,e4,aS.c],⟨q1,r1,q2,r2,q3,r3,q4,r4⟩⟩
theorem facts:fe Tryz.prog MM Qq Rq KG Om KY J9 L3 T7 SG Nn Rh:=⟨by kernel_rfl,by kernel_rfl,by kernel_rfl,by kernel_rfl,by kernel_rfl,by kernel_rfl,by kernel_rfl,by kernel_rfl,by kernel_rfl,by kernel_rfl,by kernel_rfl,by kernel_rfl,by kernel_rfl,by kernel_rfl,by kernel_rfl,by kernel_rfl,by kernel_rfl,by kernel_rfl,by kernel_rfl,by kernel_rfl,by kernel_rfl,by kernel_rfl,by kernel_rfl,by kernel_rfl,by kernel_rfl,by kernel_rfl,by kernel_rfl,by kernel_rfl,by kernel_rfl,by kernel_rfl,by kernel_rfl,by kernel_rfl,by kernel_rfl,by kernel_rfl,by kernel_rfl,by kernel_rfl,by kernel_rfl,by kernel_rfl,by kernel_rfl,by kernel_rfl,by kernel_rfl,by kernel_rfl,by kernel_rfl,by kernel_rfl,by kernel_rfl⟩
set_option maxRecDepth 100000 in
theorem kv(t1:TypeId)(p1:Value)(t2:TypeId)(p2:Value)(m:Int)(ds:List bN)(h:aY Tryz.prog 8 Tryz.f3.params.toList ds):T Tryz.prog (Γq t1 p1 t2 p2 m) 3 (ds.map bN.av) [] fun v _=>v=.bool true:=by
  have hp:Tryz.f3.params.toList=[27,3]:=by kernel_rfl
  obtain⟨d0,ds,rfl,k0,h⟩:=aY.cons (hp▸h:aY Tryz.prog 8 [27,3] ds)
  obtain⟨d1,ds,rfl,k1,h⟩:=aY.cons h
  obtain rfl:=aY.nil h
  obtain⟨x0,c0,q0⟩:=M9 facts (n:=0) k0
  have e0:d0.av=.agg (x0.c false):=DN facts.und27 k0 c0
  obtain⟨x1,rfl,w1⟩:=bQ (n:=7) facts.und3 k1
  have:=wu (Qr t1 p1 t2 p2 m) x0 q0 x1 []
  rw[←e0]at this
  exact this.mono fun v h' hv=>hv.1
set_option maxRecDepth 100000 in
theorem jy(os:Os)(started:os.Started)(H:Type)(enc:TypeId×Value→H):
    ReturnsInHanded {} Tryz.checked os 3 .any (fun w args=>(Rows.fnExactNewGateSpec.pre enc Tryz.prog Tryz.f3 Rows.fnExactNewGateRow.domain false w args∧laidMetH Tryz.prog Rows.fnExactNewGateRow.laid w)∧sizedMet enc Tryz.prog Tryz.f3 (OpenSpec.ofChange Rows.fnExactNewGateSpec) false w args)
      (Rows.fnExactNewGateSpec.post enc Tryz.prog Tryz.f3 false true false false):=by
  refine nW (C:=Tryz.checked) (X:=fun w _=>laidMetH Tryz.prog Rows.fnExactNewGateRow.laid w) (fun _ _ _ hh h=>h.of_heap hh) own started (by kernel_rfl) Tryz.func3
    (ChangeSpec.witness_shaped (enc:=enc) (C:=Tryz.checked) (os:=os) (X:=fun w _=>laidMetH Tryz.prog Rows.fnExactNewGateRow.laid w) false (World.laidAll Tryz.prog os Rows.fnExactNewGateRow.laid) #[.agg #[.int .i64 0,.slice none 0 0,.slice none 0 0,.slice none 0 0,.slice none 0 0],.int .i64 0] 11 (World.laidAll_os _ _ _)
      (World.shaped_of_ZipB (by kernel_rfl) (by kernel_rfl)) (by kernel_rfl) (by kernel_rfl) (by kernel_rfl)
      (by rw[MakeChecks.laidMetH_plain _ _ _ (by kernel_rfl)];exact laidMet_laidAll _ (by kernel_rfl) (by kernel_rfl))) ?_
  intro W base args ds gs before hsh hval hW hL
  rw[MakeChecks.laidMetH_plain _ _ _ (by kernel_rfl)]at hL
  obtain⟨m,T,fr,hm⟩:=Ao (g:=1) (t:=3) (zero:=#[.int .i64 0]) (k:=.i64) hsh (of_decide_eq_true (by kernel_rfl)) (by kernel_rfl) rfl (by kernel_rfl) (by kernel_rfl) Tryz.underlying3
  have ht:=BN hL.tail.tail
  obtain⟨t2,p2,T2,f2,h2⟩:=pM hL.tail.tail.tail.tail (show Tryz.prog.globalNamed "strconv.ErrRange" = some 3 by kernel_rfl) (show(Tryz.prog.globals[3]?).map (·.type)=some 181 by kernel_rfl) Tryz.underlying181
  obtain⟨t1,p1,T1,f1,h1⟩:=pM hL.tail.tail.tail.tail.tail (show Tryz.prog.globalNamed "strconv.ErrSyntax" = some 2 by kernel_rfl) (show(Tryz.prog.globals[2]?).map (·.type)=some 181 by kernel_rfl) Tryz.underlying181
  have h6:=hL.tail.tail.tail.tail.tail.tail
  rw[AJ]at h6
  have h0:=uP (show Tryz.prog.globalNamed "loop.example/g00591/impl.opNames" = some 0 by kernel_rfl) (show(Tryz.prog.globals[0]?).map (·.type)=some 216 by kernel_rfl) Tryz.underlying216 Tryz.underlying9 (show Tryz.prog.cellsOf 9=1 by kernel_rfl) (show Tryz.prog.cellsOf 216=11 by kernel_rfl) h6
  refine zT (n:=8) (tb:=4) (nm:= "loop.example/g00591/impl.opNames") (g:=0) (tv:=216) (te:=9) (nv:=11) (by decide +kernel) rfl (by kernel_rfl) (by kernel_rfl) Tryz.underlying216 Tryz.underlying9 (by kernel_rfl) (by kernel_rfl) (fun xs d hx=>?_) (kv t1 p1 t2 p2 m) hval hW (QS ht h1 h2 hm h0)
  have hp:Tryz.f3.params.toList.length=2:=by kernel_rfl
  rw[hp]at hx
  match xs,hx with
  | [_,_],_=>rfl
theorem kq:Rows.FnExactNewGateSaid:=
  OpenClaim.holds_of_wide 3 Tryz.f3 rfl rfl rfl rfl rfl rfl rfl ⟨rfl,rfl,rfl,rfl,rfl⟩ rfl rfl rfl rfl rfl (by kernel_rfl) Tryz.func3 (by kernel_rfl)
    (of_decide_eq_true (by kernel_rfl)) (by unfold Func.isWrapper;first|(rw[if_pos (by decide +kernel)];kernel_rfl)|(rw[if_neg (by decide +kernel)];exact⟨rfl,rfl⟩))
    (fun os started H enc _=>jy os started H enc)
theorem fnExactNewGate_proved:Rows.FnExactNewGateCardSaid:=
  Claim7.holds_tied_plain_at .later [] [.data,.data,.data,.data,.sentinel,.sentinel,.widerDeep,.pinned] true (true, "6db581ad49844891a12174dae6bdcef3a0527b6e8f902eeff99ff9dc125ac72f") true
    kq (fun _ h=>by cases h) (by kernel_rfl) (fun _ h=>by cases h) fnExactNewGate_row_tie rfl ⟨rfl,rfl⟩ (by kernel_rfl) rfl
    (fun f fn hf hfn=>by
      obtain rfl:f=3:=Option.some.inj ((show Tryz.prog.funcNamed "loop.example/g00591/laws.FnExactNewGate" = some 3 by kernel_rfl).symm.trans hf) |>.symm
      obtain rfl:fn=Tryz.f3:=(Option.some.inj (Tryz.func3.symm.trans hfn)).symm
      exact⟨by kernel_rfl,fun j t ht=>by
        rw[Tryz.params3]at ht
        have hm:t∈[27,3]:=by simpa using Array.mem_of_getElem? ht
        have hall:([27,3].all fun u=>!Tryz.prog.wantsStandIn u)=true:=by kernel_rfl
        exact(show Tryz.prog.wantsStandIn t=false by simpa using List.all_eq_true.1 hall t hm)⟩)
    (by kernel_rfl)
#print axioms fnExactNewGate_proved
end Go.Proofs.YtdlbaonelfcahaaGreatDoor
