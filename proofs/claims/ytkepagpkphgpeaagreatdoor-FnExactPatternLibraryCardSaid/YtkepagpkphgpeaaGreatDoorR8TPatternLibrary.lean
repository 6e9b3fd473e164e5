import Derived.Test.YtkepagpkphgpeaaGreatDoorCards
import Derived.Test.YtkepagpkphgpeaaGreatDoorTie
import Derived.WalkKit
import Derived.ProofKit
import Derived.OpenShut
import Derived.LaidMore
import Derived.Lay
import Derived.SevenTiedAt
import Derived.Stop.Joined
import Derived.Stop.LaidErr
import Derived.Test.YtkepagpkphgpeaaGreatDoorAmG6
import Derived.Shelf.Vars
import Derived.Handed
import Derived.Test.YtkepagpkphgpeaaGreatDoorAmG10
import Derived.Test.YtkepagpkphgpeaaGreatDoorR6G17
set_option linter.unusedVariables false
set_option linter.unusedSimpArgs false
/- The law FnExactPatternLibrary returns true, and the names of the operations read behind the call as before. Conditions: none beyond the given card's (eight variables hold what the program's text lays, tied; one of them by the form's pinned constant). -/
namespace Go.Proofs.YtkepagpkphgpeaaGreatDoor
open Go.AM
open Go.ChangeShapes Go.WideShapes Go.ChangeAt Go.RowKit
theorem own:ownKnob Tryz.prog.godebug=none:=by kernel_rfl
theorem uf{P:Program}{w:World}{g:Nat}{t:TypeId}{zero:Array Value}{k:IntKind}(h:w.ShapedOpen P)(hg:g<P.globals.size)
    (h0:((begin P (fun _ _=>0) default).world.heap[g]?).bind Obj.row? = some (zero,t)) (hz:zero.size=1)
    (hb:P.buildable t=true) (hc:P.cellTypes P.depth t=some [t]) (hu:P.underlying t=some (.int k)):∃m T fr,w.heap[g]? = some (.cells #[.int k m] T fr):=by
  obtain⟨m,hm⟩:=Go.Proofs.cell_of_shapedOpen_int h hg h0 hz hb hc hu
  obtain⟨cs,hh,hs,_⟩:=h.1 g zero t hg h0
  rw[Go.AM.cell_of hh]at hm
  refine⟨m,t,(0,0),?_⟩
  rw[hh]
  congr 2
  apply Array.ext
  · simp;omega
  · intro i h1 h2
    have:i=0:=by simp at h2;omega
    subst this
    rw[Array.getElem?_eq_getElem h1]at hm
    simpa using hm
theorem kc{H:Type}{enc:TypeId×Value→H}{a:Assume}{C:Checked}{os:Os}{f:FuncId}{fn:Func}{s:ChangeSpec}{conds:List PathCond}{apart fresh handsOn again:Bool}{X:World→Array Value→Prop}
    (hX:∀(w w':World) (args:Array Value),w.heap=w'.heap→X w args→X w' args)
    (own:ownKnob C.prog.godebug=none) (started:os.Started) (noInit:C.prog.inits.idxOf? f=none) (hfn:C.prog.funcs[f]? = some fn)
    (witness:∃(w:World) (tape:Tape) (i:Input),w.os=os∧(w.forCall tape i).Shaped C.prog∧i.vars=[]∧Input.okWide C.prog (w.forCall tape i) .any w.heap.size f i∧
      ((s.pre enc C.prog fn conds apart (w.forCall tape i).memory i.args∧X (w.forCall tape i).memory i.args)∧sizedMet enc C.prog fn (OpenSpec.ofChange s) apart (w.forCall tape i).memory i.args)∧a.holds C.prog (lone (Frame.enter C.prog f i.args .normal) [] (w.forCall tape i)))
    (contract:∀(W:World) (base:Nat) (args:Array Value) (ds gs:List (DataW H)) (before:List MemPlace),W.ShapedOpen C.prog→
      (∀(j:Nat) t v,fn.params[j]? = some t→args[j]? = some v→Value.okWide C.prog W .any base t v)→
      DataW.Whole enc C.prog fn.params.toList s.vars apart W args.toList ds gs before→X W args→
      Calls C.prog f args W fun e W'=>∃v,e=.returned v∧s.post enc C.prog fn apart fresh handsOn again W args v W'):
    ReturnsInHanded a C os f .any (fun w args=>(s.pre enc C.prog fn conds apart w args∧X w args)∧sizedMet enc C.prog fn (OpenSpec.ofChange s) apart w args) (s.post enc C.prog fn apart fresh handsOn again):=by
  refine returnsInHanded_of_calls own started noInit witness ?_
  intro w tape i _ hsh _ hok hpre hholds
  obtain⟨_,_,_,fn',hfn',_,_,_,_,hval⟩:=hok
  have e:fn'=fn:=Option.some.inj (hfn'.symm.trans hfn)
  subst e
  obtain⟨⟨⟨ds,gs,before,hw,hc⟩,hx⟩,hz⟩:=hpre
  have hw':=DataW.Whole.of_heap (w':=w.forCall tape i) (by rfl) hw
  refine(contract (w.forCall tape i) w.heap.size i.args ds gs before hsh hval hw' (hX _ _ _ (by rfl) hx)).mono fun e W' ⟨v,he,hp⟩=>?_
  subst he
  exact ChangeSpec.post_blind hp
theorem vk:Lib.pow10Tab=[1,10,100,1000,10000,100000,1000000,10000000,100000000,1000000000,10000000000,100000000000,1000000000000,10000000000000,100000000000000,1000000000000000,10000000000000000,100000000000000000,1000000000000000000,10000000000000000000]:=by decide +kernel
theorem sk{H:Type}:(Rows.laid_internal_strconv_uint64pow10:DataW H)=Lib.tabData .u64 Lib.pow10Tab:=by
  rw[vk];rfl
theorem vC{W:World}{r:List (String×DataW Unit)}(h:laidMet Tryz.prog (("internal/strconv.uint64pow10",Rows.laid_internal_strconv_uint64pow10)::r) W):Lib.TabIs Tryz.prog W "internal/strconv.uint64pow10" .u64 Lib.pow10Tab:=by
  rw[sk]at h
  exact Lib.tabIs_of_head pE (show(Tryz.prog.globals[6]?).map (·.type)=some 145 by kernel_rfl) Tryz.underlying145 (show Tryz.prog.underlying 116=some (.int .u64)by kernel_rfl) (show Tryz.prog.cellsOf 116=1 by kernel_rfl) (show Tryz.prog.cellsOf 145=20 by kernel_rfl) h
theorem kQ{P:Program}{n nm:String}{D:DataW Unit}{r:List (String×DataW Unit)}{W:World}{g:Nat}{ti:TypeId}{ms:Array (String×TypeId)}
    (h:laidMet P ((n,.iface nm D)::r) W) (hg:P.globalNamed n=some g) (ht:(P.globals[g]?).map (·.type)=some ti) (hi:P.underlying ti=some (.interface ms)):
    ∃t p T fr,W.heap[g]? = some (.cells #[.iface t p] T fr):=by
  obtain⟨ps,⟨g0,t0,cs0,f0,p0,q0,hg0,ht0,hv0,hd0,_,e0⟩,_,hrows⟩:=h
  obtain rfl:=Option.some.inj (hg.symm.trans hg0)
  obtain rfl:=Option.some.inj (ht.symm.trans ht0)
  obtain⟨f1,t,p,hcs,_⟩:=iface_of_trod hi hd0
  obtain rfl:cs0=#[.iface t p]:=Array.toList_inj.1 hcs
  unfold World.var? at hv0
  rw[hg]at hv0
  simp only[Option.bind_some]at hv0
  split at hv0
  · rename_i cs T fr hh
    injection hv0 with hv0
    subst hv0
    exact⟨t,p,T,fr,hh⟩
  · cases hv0
def Γq(t1:TypeId)(p1:Value)(t2:TypeId)(p2:Value)(m:Int):aZ:=fun g=>if g=CJ then some (Lib.pow10Tab.map (AV.int .u64))else if g=2 then some [.opq (.iface t1 p1)]else if g=3 then some [.opq (.iface t2 p2)]else if g=1 then some [.opq (.int .i64 m)]else if g=0 then some (opsL.map AV.str)else none
theorem DJ(t1:TypeId)(p1:Value)(t2:TypeId)(p2:Value)(m:Int):fP (Γq t1 p1 t2 p2 m):=⟨rfl,⟨t1,p1,rfl⟩,⟨t2,p2,rfl⟩,⟨m,rfl⟩,rfl⟩
def yk:List (List UInt8):=(List.range 11).map fU
theorem Di:opsL.map AV.str=yk.map fun z=>AV.str ⟨z.toArray⟩:=rfl
theorem vh{H:Type}:(Rows.laid_loop_example_g00591_impl_opNames:DataW H)=yS yk:=rfl
theorem Fy{W:World}{t1 t2 T1 T2 T3:TypeId}{p1 p2:Value}{f1 f2 f3:Nat×Nat}{m:Int}(h:Lib.TabIs Tryz.prog W "internal/strconv.uint64pow10" .u64 Lib.pow10Tab)(h1:W.heap[2]? = some (.cells #[.iface t1 p1] T1 f1))(h2:W.heap[3]? = some (.cells #[.iface t2 p2] T2 f2))(h3:W.heap[1]? = some (.cells #[.int .i64 m] T3 f3))
    (h4:∃arr,(bB W).imm false 0=some arr∧dh (bB W) [] arr 0 (yk.map fun z=>AV.str ⟨z.toArray⟩)∧arr.size=(yk.map fun z=>AV.str ⟨z.toArray⟩).length):
    pd (Γq t1 p1 t2 p2 m) (bB W):=by
  intro g cs e
  unfold Γq at e
  split at e
  · rename_i hg
    subst hg
    injection e with e
    subst e
    exact yM pE h
  split at e
  · rename_i hg
    subst hg
    injection e with e
    subst e
    exact pT h1
  split at e
  · rename_i hg
    subst hg
    injection e with e
    subst e
    exact pT h2
  split at e
  · rename_i hg
    subst hg
    injection e with e
    subst e
    exact pT h3
  split at e
  · rename_i hg
    subst hg
    injection e with e
    subst e
    rw[Di]
    exact h4
  · cases e
theorem eR(t1:TypeId)(p1:Value)(t2:TypeId)(p2:Value)(m:Int)(ds:List dr)(h:dJ Tryz.prog 2 Tryz.f3.params.toList ds):T Tryz.prog (Γq t1 p1 t2 p2 m) 3 (ds.map dr.av) [] fun v _=>v=.bool true:=by
  have hp:Tryz.f3.params.toList=[]:=by kernel_rfl
  obtain rfl:=dJ.nil (hp▸h:dJ Tryz.prog 2 [] ds)
  exact(iz (DJ t1 p1 t2 p2 m) []).mono fun v h' hv=>hv.1
set_option maxRecDepth 100000 in
theorem dV(os:Os)(started:os.Started)(H:Type)(enc:TypeId×Value→H):
    ReturnsInHanded {} Tryz.checked os 3 .any (fun w args=>(Rows.fnExactPatternLibrarySpec.pre enc Tryz.prog Tryz.f3 Rows.fnExactPatternLibraryRow.domain false w args∧laidMetH Tryz.prog Rows.fnExactPatternLibraryRow.laid w)∧sizedMet enc Tryz.prog Tryz.f3 (OpenSpec.ofChange Rows.fnExactPatternLibrarySpec) false w args)
      (Rows.fnExactPatternLibrarySpec.post enc Tryz.prog Tryz.f3 false true false false):=by
  refine kc (C:=Tryz.checked) (X:=fun w _=>laidMetH Tryz.prog Rows.fnExactPatternLibraryRow.laid w) (fun _ _ _ hh h=>h.of_heap hh) own started (by kernel_rfl) Tryz.func3
    (ChangeSpec.witness_shaped (enc:=enc) (C:=Tryz.checked) (os:=os) (X:=fun w _=>laidMetH Tryz.prog Rows.fnExactPatternLibraryRow.laid w) false (World.laidAll Tryz.prog os Rows.fnExactPatternLibraryRow.laid) #[] 8 (World.laidAll_os _ _ _)
      (World.shaped_of_ZipB (by kernel_rfl) (by kernel_rfl)) (by kernel_rfl) (by kernel_rfl) (by kernel_rfl)
      (by rw[MakeChecks.laidMetH_plain _ _ _ (by kernel_rfl)];exact laidMet_laidAll _ (by kernel_rfl) (by kernel_rfl))) ?_
  intro W base args ds gs before hsh hval hW hL
  rw[MakeChecks.laidMetH_plain _ _ _ (by kernel_rfl)]at hL
  obtain⟨m,T,fr,hm⟩:=uf (g:=1) (t:=3) (zero:=#[.int .i64 0]) (k:=.i64) hsh (of_decide_eq_true (by kernel_rfl)) (by kernel_rfl) rfl (by kernel_rfl) (by kernel_rfl) Tryz.underlying3
  have ht:=vC hL.tail.tail
  obtain⟨t2,p2,T2,f2,h2⟩:=kQ hL.tail.tail.tail.tail (show Tryz.prog.globalNamed "strconv.ErrRange" = some 3 by kernel_rfl) (show(Tryz.prog.globals[3]?).map (·.type)=some 60 by kernel_rfl) Tryz.underlying60
  obtain⟨t1,p1,T1,f1,h1⟩:=kQ hL.tail.tail.tail.tail.tail (show Tryz.prog.globalNamed "strconv.ErrSyntax" = some 2 by kernel_rfl) (show(Tryz.prog.globals[2]?).map (·.type)=some 60 by kernel_rfl) Tryz.underlying60
  have h6:=hL.tail.tail.tail.tail.tail.tail
  rw[vh]at h6
  have h0:=qu (show Tryz.prog.globalNamed "loop.example/g00591/impl.opNames" = some 0 by kernel_rfl) (show(Tryz.prog.globals[0]?).map (·.type)=some 71 by kernel_rfl) Tryz.underlying71 Tryz.underlying9 (show Tryz.prog.cellsOf 9=1 by kernel_rfl) (show Tryz.prog.cellsOf 71=11 by kernel_rfl) h6
  refine ur (n:=2) (tb:=4) (nm:= "loop.example/g00591/impl.opNames") (g:=0) (tv:=71) (te:=9) (nv:=11) (by decide +kernel) rfl (by kernel_rfl) (by kernel_rfl) Tryz.underlying71 Tryz.underlying9 (by kernel_rfl) (by kernel_rfl) (fun xs d hx=>?_) (eR t1 p1 t2 p2 m) hval hW (Fy ht h1 h2 hm h0)
  have hp:Tryz.f3.params.toList.length=0:=by kernel_rfl
  rw[hp]at hx
  match xs,hx with
  | [],_=>rfl
theorem eD:Rows.FnExactPatternLibrarySaid:=
  OpenClaim.holds_of_wide 3 Tryz.f3 rfl rfl rfl rfl rfl rfl rfl ⟨rfl,rfl,rfl,rfl,rfl⟩ rfl rfl rfl rfl rfl (by kernel_rfl) Tryz.func3 (by kernel_rfl)
    (of_decide_eq_true (by kernel_rfl)) (by unfold Func.isWrapper;first|(rw[if_pos (by decide +kernel)];kernel_rfl)|(rw[if_neg (by decide +kernel)];exact⟨rfl,rfl⟩))
    (fun os started H enc _=>dV os started H enc)
theorem fnExactPatternLibrary_proved:Rows.FnExactPatternLibraryCardSaid:=
  Claim7.holds_tied_plain_at .later [] [.data,.data,.data,.data,.sentinel,.sentinel,.widerDeep,.pinned] true (true, "b19fc0e46be1b5c41f20d18d595912fd289f5a99b638d91c0d003f2d7e17a605") true
    eD (fun _ h=>by cases h) (by kernel_rfl) (fun _ h=>by cases h) fnExactPatternLibrary_row_tie rfl ⟨rfl,rfl⟩ (by kernel_rfl) rfl
    (fun f fn hf hfn=>by
      obtain rfl:f=3:=Option.some.inj ((show Tryz.prog.funcNamed "loop.example/g00591/laws.FnExactPatternLibrary" = some 3 by kernel_rfl).symm.trans hf) |>.symm
      obtain rfl:fn=Tryz.f3:=(Option.some.inj (Tryz.func3.symm.trans hfn)).symm
      exact⟨by kernel_rfl,fun j t ht=>by
        rw[Tryz.params3]at ht
        simp at ht⟩)
    (by kernel_rfl)
#print axioms fnExactPatternLibrary_proved
end Go.Proofs.YtkepagpkphgpeaaGreatDoor
