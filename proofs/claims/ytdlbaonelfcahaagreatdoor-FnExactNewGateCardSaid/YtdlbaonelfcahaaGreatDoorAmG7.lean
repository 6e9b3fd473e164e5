import Derived.Test.YtdlbaonelfcahaaGreatDoorAmG6
import Derived.ChangeArms
import Derived.ChangeSame
import Derived.ChangeOld
import Derived.ChangeShapes
import Derived.RowKit
import Derived.RowKit3
set_option linter.unusedVariables false
set_option linter.unusedSimpArgs false
namespace Go.AM
open Go.ChangeShapes
inductive bN where
  | b (x:Bool)|i (k:IntKind) (n:Int)|s (x:ByteArray)|sl (h:SH) (sz:Nat) (xs:List bN)|st (fs:List bN)
  deriving Inhabited
mutual
def bN.cells:bN→List AV
  | .b x=>[.bool x]
  | .i k n=>[.int k n]
  | .s x=>[.str x]
  | .sl h sz xs=>[AM.sl h sz (bN.kP xs)]
  | .st fs=>bN.eY fs
def bN.kP:List bN→List (List AV)
  | []=>[]
  | d::r=>d.cells::bN.kP r
def bN.eY:List bN→List AV
  | []=>[]
  | d::r=>d.cells++bN.eY r
end
theorem bN.sO:∀(xs:List bN),bN.kP xs=xs.map bN.cells
  | []=>rfl
  | d::r=>by simp[bN.kP,bN.sO r]
section
variable (P:Program)
def qg:Nat→List Field→Nat→Bool
  | o,[],n=>o == n
  | o,f::r,n=>f.offset == o && qg (o+P.cellsOf f.type) r n
def eE:Nat→TypeId→Bool
  | 0,_=>false
  | n+1,t=>match P.underlying t with
    | some .bool|some (.int _)|some .string=>P.cellsOf t == 1
    | some (.slice e)=>P.cellsOf t == 1 && decide (0<P.cellsOf e) && eE n e
    | some (.struct fs)=>qg P 0 fs.toList (P.cellsOf t) && fs.toList.all fun f=>eE n f.type
    | _=>false
def bN.ok:Nat→TypeId→bN→Prop
  | 0,_,_=>False
  | n+1,t,d=>match P.underlying t,d with
    | some .bool,.b _=>True
    | some (.int k),.i k' m=>k'=k∧(Lit.int k m).wf=true
    | some .string,.s x=>x.size≤maxLen
    | some (.slice e),.sl h sz xs=>sz=P.cellsOf e∧h=.v false false∧xs.length≤maxLen∧∀x∈xs,bN.ok n e x
    | some (.struct fs),.st ds=>ds.length=fs.size∧∀(i:Nat) f d,fs[i]? = some f→ds[i]? = some d→bN.ok n f.type d
    | _,_=>False
end
section
variable {P:Program} {Γ:bG} {H:Type} {enc:TypeId×Value→H} {W:World}
def cE(W:World):cN where
  m:=fun _ _=>none
  imm:=fun β c=>if β=true then none else match W.heap[c]? with|some (.cells arr _ _)=>some arr|_=>none
theorem Kw(W:World):RH (cE W) [] [] [] W:=by
  refine⟨fun b g cs h=>by simp at h,fun i cs h=>by simp at h,rfl,fun i j c h=>by simp at h,fun b g cs _ _ _ _ _ _ _ _ h=>by simp at h,fun b g cs _ _ _ _ h=>by simp at h,?_,fun _ _ _ _ _ h=>by simp at h,fun _ _ _ _ _ _ _ _ _ h=>by simp at h,fun b g c o n h=>by simp[cE]at h⟩
  intro β c arr h
  simp only[cE]at h
  split at h
  · cases h
  · split at h
    · rename_i arr' T fr hh
      injection h with h
      subst h
      exact⟨T,fr,hh⟩
    · cases h
theorem vM{a:Addr}{v:Value}(h:W.cell? a=some v):a.spot=none∧∃arr,(cE W).imm false a.block=some arr∧arr[a.off]? = some v:=by
  unfold World.cell? at h
  split at h
  · rename_i c T fr hh
    split at h
    · cases h
    · rename_i hs
      refine⟨by cases hsp:a.spot<;>simp[hsp]at hs ⊢,c,?_,h⟩
      simp[cE,hh]
  · cases h
theorem yN(a:Addr)(n:Nat):(a.add n).off=a.off+n:=by unfold Addr.add;split<;>simp_all
theorem sG(a:Addr)(n:Nat):(a.add n).block=a.block:=by unfold Addr.add;split<;>simp_all
theorem ki{ρ ls}{x:AV}{v:Value}(h:RV ρ ls x v):eB ρ ls [x] [v]:=
  ⟨rfl,fun i y hy=>by
    cases i with
    | zero=>simp at hy;subst hy;exact h
    | succ i=>simp at hy⟩
theorem Bq:∀(n:Nat) (t:TypeId) (fuel:Nat) (cs:List Value) (x:DataW H×List MemPlace),eE P n t=true→DataW.trod enc P W 0 (fun _=>true) true fuel t cs=some x→
    ∃d,bN.ok P n t d∧eB (cE W) [] d.cells cs∧cs.length=P.cellsOf t:=by
  intro n
  induction n with
  | zero=>intro t fuel cs x h;simp[eE]at h
  | succ n ih=>
    intro t fuel cs x hp h
    simp only[eE]at hp
    split at hp
    · rename_i hu
      obtain⟨b,rfl,_⟩:=DataW.trod_bool hu h
      exact⟨.b b,by simp[bN.ok,hu],ki (.bool _ _),by simpa using(by simpa using hp:P.cellsOf t=1).symm⟩
    · rename_i k hu
      obtain⟨m,rfl,_,hw⟩:=DataW.trod_int hu h
      exact⟨.i k m,by simp[bN.ok,hu,hw],ki (.int _ _ _),by simpa using(by simpa using hp:P.cellsOf t=1).symm⟩
    · rename_i hu
      obtain⟨b,rfl,_,hs⟩:=DataW.trod_string hu h
      exact⟨.s b,by simp[bN.ok,hu,hs],ki (.str _ _),by simpa using(by simpa using hp:P.cellsOf t=1).symm⟩
    · rename_i e hu
      simp only[Bool.and_eq_true,beq_iff_eq,decide_eq_true_eq]at hp
      obtain⟨⟨hp1,hp2⟩,hp3⟩:=hp
      rcases DataW.trod_slice hu h with⟨rfl,_⟩|⟨a,len,cap,elems,rest,m,_,rfl,_,_,hl,hm,hlen,hel,_,_⟩
      · exact⟨.sl (.v false false) (P.cellsOf e) [],by simp[bN.ok,hu],ki (.vsn _ _ _ _),by simp[hp1]⟩
      · have each:∀i,i<len→∃d cs',bN.ok P n e d∧W.cells? 0 (a.add (i*P.cellsOf e)) (P.cellsOf e)=some cs'∧eB (cE W) [] d.cells cs'∧cs'.length=P.cellsOf e:=by
          intro i hi
          have:=hel i hi
          rw[List.getElem?_eq_getElem (by omega),Option.bind_eq_some_iff]at this
          obtain⟨cs',h1,h2⟩:=this
          obtain⟨d,g1,g2,g3⟩:=ih e m cs' _ hp3 h2
          exact⟨d,cs',g1,h1,g2,g3⟩
        let ds:List bN:=(List.range len).attach.map fun i=>(each i.1 (List.mem_range.1 i.2)).choose
        have hds:ds.length=len:=by simp[ds]
        have bA:∀(i:Nat) (d:bN),ds[i]? = some d→i<len∧∃cs',bN.ok P n e d∧W.cells? 0 (a.add (i*P.cellsOf e)) (P.cellsOf e)=some cs'∧eB (cE W) [] d.cells cs'∧cs'.length=P.cellsOf e:=by
          intro i d hd
          have hi:i<len:=by have:=aK hd;omega
          refine⟨hi,?_⟩
          have:d=(each i hi).choose:=by
            simp only[ds,List.getElem?_map,Option.map_eq_some_iff]at hd
            obtain⟨x,hx,rfl⟩:=hd
            have hx':x.1=i:=by
              have:=congrArg (Option.map Subtype.val) hx
              simp[hi]at this
              exact this.symm
            obtain⟨y,hy⟩:=x
            subst hx'
            rfl
          rw[this]
          exact(each i hi).choose_spec
        refine⟨.sl (.v false false) (P.cellsOf e) ds,?_,ki ?_,by simp[hp1]⟩
        · simp only[bN.ok,hu]
          refine⟨trivial,trivial,by omega,fun d hd=>?_⟩
          obtain⟨i,hi⟩:=List.mem_iff_getElem?.1 hd
          obtain⟨_,_,h1,_⟩:=bA i d hi
          exact h1
        · simp only[sl,bN.sO]
          rcases Nat.eq_zero_or_pos len with h0|hpos
          · have:ds=[]:=List.length_eq_zero_iff.1 (by omega)
            rw[this,h0]
            exact .vs0 _ false _ false a cap (by simp)
          · have look:∀(i:Nat) (l:List AV),(ds.map bN.cells)[i]? = some l→i<len∧l.length=P.cellsOf e∧∀(j:Nat) (x:AV),l[j]? = some x→∃v,W.cell? ((a.add (i*P.cellsOf e)).add j)=some v∧RV (cE W) [] x v:=by
              intro i l hl'
              rw[List.getElem?_map,Option.map_eq_some_iff]at hl'
              obtain⟨d,hd,rfl⟩:=hl'
              obtain⟨hi,cs',_,g2,g3,g4⟩:=bA i d hd
              obtain⟨_,c2,c3⟩:=World.cells?_some g2
              refine⟨hi,by rw[g3.1];exact g4,fun j x hx=>?_⟩
              have hj:j<P.cellsOf e:=by have:=aK hx;have:=g3.1;omega
              have hr:=g3.2 j x hx
              rw[List.getD_eq_getElem?_getD,List.getElem?_eq_getElem (by omega)]at hr
              have hjl:j<cs'.length:=by omega
              exact⟨cs'[j],by rw[c3 j hj,List.getElem?_eq_getElem hjl],by simpa using hr⟩
            have hspot:a.spot=none:=by
              have hd0:ds[0]? = some ds[0]:=List.getElem?_eq_getElem (by omega)
              obtain⟨_,cs',_,g2,_,g4⟩:=bA 0 _ hd0
              obtain⟨_,c2,c3⟩:=World.cells?_some g2
              have:=c3 0 hp2
              rw[List.getElem?_eq_getElem (by omega)]at this
              have:=(vM this).1
              simpa[Addr.add]using this
            obtain⟨ab,ao,asp⟩:=a
            simp only at hspot
            subst hspot
            have hcell:∀(i j:Nat) (v:Value),W.cell? ((Addr.add ⟨ab,ao,none⟩ (i*P.cellsOf e)).add j)=some v→∃arr,(cE W).imm false ab=some arr∧arr[ao+(i*P.cellsOf e+j)]? = some v:=by
              intro i j v hv
              obtain⟨_,arr,h1,h2⟩:=vM hv
              rw[sG,sG]at h1
              rw[yN,yN,Nat.add_assoc]at h2
              exact⟨arr,h1,h2⟩
            have hv:∀i j,∃v,∀l x,(ds.map bN.cells)[i]? = some l→l[j]? = some x→W.cell? ((Addr.add ⟨ab,ao,none⟩ (i*P.cellsOf e)).add j)=some v∧RV (cE W) [] x v:=by
              intro i j
              by_cases hx:∃l x,(ds.map bN.cells)[i]? = some l∧l[j]? = some x
              · obtain⟨l,x,h1,h2⟩:=hx
                obtain⟨_,_,h3⟩:=look i l h1
                obtain⟨v,h4,h5⟩:=h3 j x h2
                refine⟨v,fun l' x' e1 e2=>?_⟩
                rw[h1]at e1;injection e1 with e1;subst e1
                rw[h2]at e2;injection e2 with e2;subst e2
                exact⟨h4,h5⟩
              · exact⟨default,fun l x e1 e2=>absurd ⟨l,x,e1,e2⟩ hx⟩
            have:=RV.vs (ρ:=cE W) [] false (P.cellsOf e) false (ds.map bN.cells) ab ao cap (fun i j=>(hv i j).choose) (by simp[hds];omega) (by simp) (fun i l h=>(look i l h).2.1)
              (fun i l h1 j x h2=>by
                have:=((hv i j).choose_spec l x h1 h2).1
                exact hcell i j _ this)
              (fun i l h1 j x h2=>((hv i j).choose_spec l x h1 h2).2)
            simpa[hds]using this
    · rename_i fs hu
      simp only[Bool.and_eq_true]at hp
      obtain⟨hc,ha⟩:=hp
      obtain⟨xs,m,_,_,hl,hlen,hf⟩:=DataW.trod_struct hu h
      have key:∀(l:List Field) (o k:Nat),qg P o l (P.cellsOf t)=true→(∀f∈l,eE P n f.type=true)→(∀(i:Nat) (f:Field),l[i]? = some f→∃y,DataW.trod enc P W 0 (fun _=>true) true m f.type ((cs.drop f.offset).take (P.cellsOf f.type))=some y)→
          ∃ds:List bN,ds.length=l.length∧(∀(i:Nat) f d,l[i]? = some f→ds[i]? = some d→bN.ok P n f.type d)∧eB (cE W) [] (bN.eY ds) (cs.drop o):=by
        intro l
        induction l with
        | nil=>
          intro o k h1 _ _
          simp only[qg,beq_iff_eq]at h1
          exact⟨[],rfl,fun i f d h=>by simp at h,by rw[List.drop_of_length_le (by omega)];exact⟨rfl,fun i x h=>by simp[bN.eY]at h⟩⟩
        | cons f l ihl=>
          intro o k h1 h2 h3
          simp only[qg,Bool.and_eq_true,beq_iff_eq]at h1
          obtain⟨rfl,h1⟩:=h1
          obtain⟨y,hy⟩:=h3 0 f rfl
          obtain⟨d,d1,d2,d3⟩:=ih f.type m _ y (h2 f (by simp)) hy
          obtain⟨ds,e1,e2,e3⟩:=ihl _ k h1 (fun g hg=>h2 g (by simp[hg])) (fun i g hg=>h3 (i+1) g (by simpa using hg))
          refine⟨d::ds,by simp[e1],fun i g d' hg hd=>?_,?_⟩
          · cases i with
            | zero=>simp at hg hd;subst hg;subst hd;exact d1
            | succ i=>exact e2 i g d' (by simpa using hg) (by simpa using hd)
          · have:cs.drop f.offset=(cs.drop f.offset).take (P.cellsOf f.type)++cs.drop (f.offset+P.cellsOf f.type):=by
              conv=>lhs;rw[←List.take_append_drop (P.cellsOf f.type) (cs.drop f.offset)]
              rw[List.drop_drop]
            rw[this]
            exact d2.append e3
      obtain⟨ds,e1,e2,e3⟩:=key fs.toList 0 0 hc (fun f hf'=>List.all_eq_true.1 ha f hf') (fun i f hf'=>by
        have:=hf i f (by simpa using hf')
        have hi:i<xs.length:=by have:=aK hf';simp at this;omega
        exact⟨xs[i],by rw[this,List.getElem?_eq_getElem hi]⟩)
      refine⟨.st ds,?_,by simpa[bN.cells]using e3,hl⟩
      simp only[bN.ok,hu]
      exact⟨by simpa using e1,fun i f d h1 h2=>e2 i f d (by simpa using h1) h2⟩
    · cases hp
theorem jD{α β:Type}{f g:α→Option β}:∀{l:List α} {r:List β},(∀x∈l,∀y∈r,f x=some y→g x=some y)→l.mapM f=some r→l.mapM g=some r
  | [],r,_,h=>by simpa using h
  | a::l,r,hi,h=>by
    rw[List.mapM_cons]at h ⊢
    cases ha:f a with
    | none=>simp[ha]at h
    | some b=>
      cases hl:l.mapM f with
      | none=>simp[ha,hl]at h
      | some bs=>
        simp[ha,hl]at h
        subst h
        have h1:=hi a (by simp) b (by simp) ha
        have h2:=jD (l:=l) (r:=bs) (g:=g) (fun x hx y hy=>hi x (by simp[hx]) y (by simp[hy])) hl
        simp[h1,h2]
variable {W':World}
theorem B8(hk:∀c,c<W.heap.size→W'.heap[c]? = W.heap[c]?){a:Addr}{v:Value}(h:W.cell? a=some v):W'.cell? a=some v:=by
  unfold World.cell? at h ⊢
  have:a.block<W.heap.size:=by
    rcases Nat.lt_or_ge a.block W.heap.size with h'|h'
    · exact h'
    · rw[Array.getElem?_eq_none h']at h;cases h
  rw[hk _ this]
  exact h
theorem Ag(hk:∀c,c<W.heap.size→W'.heap[c]? = W.heap[c]?){a:Addr}{n:Nat}{cs:List Value}(h:W.cells? 0 a n=some cs):W'.cells? 0 a n=some cs:=by
  unfold World.cells? at h ⊢
  simp only[Nat.zero_le,if_true]at h ⊢
  exact jD (fun x _ y _ e=>B8 hk e) h
theorem xQ(hk:∀c,c<W.heap.size→W'.heap[c]? = W.heap[c]?):∀(n:Nat) (t:TypeId) (fuel:Nat) (cs:List Value) (x:DataW H×List MemPlace),eE P n t=true→DataW.trod enc P W 0 (fun _=>true) true fuel t cs=some x→
    ∀sp:Nat→Bool,(∀p∈x.2,sp p.block=true)→DataW.trod enc P W' 0 sp true fuel t cs=some x:=by
  intro n
  induction n with
  | zero=>intro t fuel cs x h;simp[eE]at h
  | succ n ih=>
    intro t fuel cs x hp h sp hsp
    cases fuel with
    | zero=>simp[DataW.trod]at h
    | succ m=>
    simp only[eE]at hp
    split at hp
    · rename_i hu
      obtain⟨b,rfl,rfl⟩:=DataW.trod_bool hu h
      simp[DataW.trod,hu]
    · rename_i k hu
      obtain⟨z,rfl,rfl,hw⟩:=DataW.trod_int hu h
      simp[DataW.trod,hu,hw]
    · rename_i hu
      obtain⟨b,rfl,rfl,hs⟩:=DataW.trod_string hu h
      simp[DataW.trod,hu,hs]
    · rename_i e hu
      simp only[Bool.and_eq_true,beq_iff_eq,decide_eq_true_eq]at hp
      obtain⟨⟨hp1,hp2⟩,hp3⟩:=hp
      rcases DataW.trod_slice hu h with⟨rfl,rfl⟩|⟨a,len,cap,_,_,_,_,rfl,_,_,hl,hm,_⟩
      · simp[DataW.trod,hu]
      · unfold DataW.trod at h ⊢
        rw[hu]at h ⊢
        simp only[Nat.zero_le,hl,hm,and_self,if_true]at h ⊢
        rw[Option.bind_eq_some_iff]at h ⊢
        obtain⟨elems,he,h⟩:=h
        rw[Option.map_eq_some_iff]at h
        obtain⟨rest,hr,rfl⟩:=h
        have sub:∀y∈elems++rest,∀p∈y.2,sp p.block=true:=fun y hy p hp=>hsp p (by
          refine List.mem_append_right _ (List.mem_flatMap.2 ⟨y,hy,hp⟩))
        have imp:∀(i:Nat) (y:DataW H×List MemPlace),y∈elems++rest→((W.cells? 0 (a.add (i*P.cellsOf e)) (P.cellsOf e)).bind (DataW.trod enc P W 0 (fun _=>true) true m e))=some y→
            ((W'.cells? 0 (a.add (i*P.cellsOf e)) (P.cellsOf e)).bind (DataW.trod enc P W' 0 sp true m e))=some y:=by
          intro i y hy h
          rw[Option.bind_eq_some_iff]at h ⊢
          obtain⟨cs',h1,h2⟩:=h
          exact⟨cs',Ag hk h1,ih e m cs' y hp3 h2 sp (sub y hy)⟩
        refine⟨elems,jD (fun i _ y hy=>imp i y (by simp[hy])) he,?_⟩
        rw[Option.map_eq_some_iff]
        refine⟨rest,?_,rfl⟩
        have hr':(List.range (cap-len)).mapM (fun j=>(W'.cells? 0 (a.add ((len+j)*P.cellsOf e)) (P.cellsOf e)).bind (DataW.trod enc P W' 0 sp true m e))=some rest:=
          jD (fun i _ y hy=>imp (len+i) y (by simp[hy])) hr
        cases hs:sp a.block with
        | true=>simpa using hr'
        | false=>
          have hz:rest=[]:=by
            cases rest with
            | nil=>rfl
            | cons y r=>
              have hpos:0<(elems.length+(y::r).length)*P.cellsOf e:=Nat.mul_pos (by simp only[List.length_cons];omega) hp2
              have:=hsp (.cell a.block (a.off+0)) (by
                simp only[List.mem_append]
                refine .inl ?_
                simp only[MemPlace.row,List.mem_map,List.mem_range]
                exact⟨0,hpos,rfl⟩)
              simp[MemPlace.block,hs]at this
          subst hz
          simp
    · rename_i fs hu
      simp only[Bool.and_eq_true]at hp
      obtain⟨hc,ha⟩:=hp
      obtain⟨xs0,m',hm',_,hl,_,_⟩:=DataW.trod_struct hu h
      unfold DataW.trod at h ⊢
      rw[hu]at h ⊢
      simp only[hl,if_true]at h ⊢
      rw[Option.map_eq_some_iff]at h ⊢
      obtain⟨xs,hx,rfl⟩:=h
      refine⟨xs,jD (fun f hf y hy e=>ih f.type m _ y (List.all_eq_true.1 ha f hf) e sp fun p hp=>hsp p ?_) hx,rfl⟩
      simp only[List.mem_flatMap]
      exact⟨y,hy,hp⟩
    · cases hp
def bN.av:bN→AV
  | .b x=>.bool x
  | .i k n=>.int k n
  | .s x=>.str x
  | .sl h sz xs=>AM.sl h sz (bN.kP xs)
  | .st fs=>.agg (bN.eY fs)
theorem Dh{n:Nat}{t:TypeId}{v:Value}{r:Reach}{base:Nat}{x:DataW H}{ps:List MemPlace}(hp:eE P n t=true)(hv:Value.okWide P W r base t v)(h:DataW.Trod enc P W 0 (fun _=>true) true t v x ps):
    ∃d,bN.ok P n t d∧RV (cE W) [] d.av v:=by
  obtain⟨fuel,h⟩:=h
  obtain⟨d,h1,h2,h3⟩:=Bq n t fuel _ _ hp h
  refine⟨d,h1,?_⟩
  cases n with
  | zero=>simp[eE]at hp
  | succ n=>
  have one:∀(y:AV),d.cells=[y]→(∀cs,v≠.agg cs)→RV (cE W) [] y v:=by
    intro y hy hn
    have hc:v.cells.toList=[v]:=by
      cases v<;>first|rfl|exact absurd rfl (hn _)
    rw[hy,hc]at h2
    simpa using h2.2 0 y rfl
  unfold Value.okWide at hv
  simp only[bN.ok]at h1
  simp only[eE]at hp
  split at hp
  · rename_i hu
    rw[hu]at h1 hv
    cases d<;>simp at h1
    exact one _ rfl (fun cs e=>by subst e;simp[Cell.okWide,Cell.ok,hu]at hv)
  · rename_i k hu
    rw[hu]at h1 hv
    cases d<;>simp at h1
    exact one _ rfl (fun cs e=>by subst e;simp[Cell.okWide,Cell.ok,hu]at hv)
  · rename_i hu
    rw[hu]at h1 hv
    cases d<;>simp at h1
    exact one _ rfl (fun cs e=>by subst e;simp[Cell.okWide,Cell.ok,hu]at hv)
  · rename_i e hu
    rw[hu]at h1 hv
    cases d<;>simp at h1
    exact one _ rfl (fun cs e=>by subst e;simp[Cell.okWide,Cell.ok,hu]at hv)
  · rename_i fs hu
    rw[hu]at h1 hv
    cases d<;>simp at h1
    obtain⟨cs,rfl,_⟩:=hv
    simp only[bN.cells,Value.cells]at h2
    exact .agg _ _ _ (by simpa using h2.1) (fun i x hx=>by have:=h2.2 i x hx;rwa[b7]at this)
  · cases hp
def aY(P:Program)(n:Nat):List TypeId→List bN→Prop
  | [],[]=>True
  | t::ts,d::ds=>bN.ok P n t d∧aY P n ts ds
  | _,_=>False
theorem tV{n:Nat}{r:Reach}{base:Nat}:∀{ts:List TypeId} {vs:List Value} {xs:List (DataW H)} {ps:List MemPlace},(∀t∈ts,eE P n t=true)→(∀(j:Nat) t v,ts[j]? = some t→vs[j]? = some v→Value.okWide P W r base t v)→
    DataW.TrodAll enc P W 0 (fun _=>true) true ts vs xs ps→∃ds,aY P n ts ds∧eB (cE W) [] (ds.map bN.av) vs∧xs.length=ts.length∧
      ∀{W':World},(∀c,c<W.heap.size→W'.heap[c]? = W.heap[c]?)→∀sp:Nat→Bool,(∀p∈ps,sp p.block=true)→DataW.TrodAll enc P W' 0 sp true ts vs xs ps
  | [],vs,xs,ps,hp,hv,h=>by
    obtain⟨rfl,rfl,rfl⟩:=trodAll_nil h
    exact⟨[],trivial,⟨rfl,fun i x hx=>by simp at hx⟩,rfl,fun _ _ _=>rfl⟩
  | t::ts,vs,xs,ps,hp,hv,h=>by
    obtain⟨v,vs',x,xs',p,q,rfl,rfl,rfl,h1,h2⟩:=trodAll_cons h
    obtain⟨d,d1,d2⟩:=Dh (hp t (by simp)) (hv 0 t v rfl rfl) h1
    obtain⟨ds,e1,e2,e3,e4⟩:=tV (fun t ht=>hp t (by simp[ht])) (fun j t v a b=>hv (j+1) t v (by simpa using a) (by simpa using b)) h2
    refine⟨d::ds,⟨d1,e1⟩,(ki d2).append e2,by simp[e3],fun hk sp hsp=>?_⟩
    obtain⟨fuel,hf⟩:=h1
    exact⟨p,q,⟨fuel,xQ hk n t fuel _ _ (hp t (by simp)) hf sp fun y hy=>hsp y (by simp[hy])⟩,e4 hk sp (fun y hy=>hsp y (by simp[hy])),rfl⟩
theorem aY.one{n:Nat}{t0:TypeId}{ds:List bN}(h:aY P n [t0] ds):∃d0,ds=[d0]∧bN.ok P n t0 d0:=
  match ds,h with|[d0],h=>⟨d0,rfl,h.1⟩
theorem aY.cons{n:Nat}{t0:TypeId}{ts:List TypeId}{ds:List bN}(h:aY P n (t0::ts) ds):∃d0 ds',ds=d0::ds'∧bN.ok P n t0 d0∧aY P n ts ds':=
  match ds,h with|d0::ds',h=>⟨d0,ds',rfl,h.1,h.2⟩
theorem aY.nil{n:Nat}{ds:List bN}(h:aY P n [] ds):ds=[]:=match ds,h with|[],_=>rfl
theorem bQ{n:Nat}{t:TypeId}{k:IntKind}(h1:P.underlying t=some (.int k)){d:bN}(h:bN.ok P (n+1) t d):∃m:Int,d=.i k m∧(Lit.int k m).wf=true:=by
  simp only[bN.ok,h1]at h
  cases d<;>simp only at h
  obtain⟨rfl,h⟩:=h
  exact⟨_,rfl,h⟩
theorem Bs{n:Nat}{t:TypeId}(h1:P.underlying t=some .bool){d:bN}(h:bN.ok P (n+1) t d):∃m:Bool,d=.b m:=by
  simp only[bN.ok,h1]at h
  cases d<;>simp only at h
  exact⟨_,rfl⟩
theorem zx{n:Nat}{t:TypeId}(h1:P.underlying t=some .string){d:bN}(h:bN.ok P (n+1) t d):∃m:ByteArray,d=.s m∧m.size≤maxLen:=by
  simp only[bN.ok,h1]at h
  cases d<;>simp only at h
  exact⟨_,rfl,h⟩
theorem jk{n:Nat}{t e:TypeId}(h1:P.underlying t=some (.slice e)){d:bN}(h:bN.ok P (n+1) t d):∃xs,d=.sl (.v false false) (P.cellsOf e) xs∧xs.length≤maxLen∧∀x∈xs,bN.ok P n e x:=by
  simp only[bN.ok,h1]at h
  cases d<;>simp only at h
  obtain⟨rfl,rfl,h⟩:=h
  exact⟨_,rfl,h⟩
theorem ey{α:Type}{n:Nat}{e:TypeId}(cells:α→List AV)(Q:α→Prop)(each:∀d:bN,bN.ok P n e d→∃a:α,d.cells=cells a∧Q a):∀{l:List bN},(∀x∈l,bN.ok P n e x)→∃zs:List α,l.length=zs.length∧bN.kP l=zs.map cells∧∀z∈zs,Q z
  | [],_=>⟨[],rfl,rfl,by simp⟩
  | x::l,h=>by
    obtain⟨zs,e1,e2,e3⟩:=ey cells Q each (l:=l) (fun y hy=>h y (by simp[hy]))
    obtain⟨a,ha,hq⟩:=each x (h x (by simp))
    exact⟨a::zs,by simp[e1],by simp[bN.kP,ha,e2],by intro z hz;rcases List.mem_cons.1 hz with rfl|hz;exact hq;exact e3 z hz⟩
theorem c7{n:Nat}{t:TypeId}{fs:Array Field}(h1:P.underlying t=some (.struct fs)){d:bN}(h:bN.ok P (n+1) t d):∃ds,d=.st ds∧aY P n (fs.toList.map (·.type)) ds:=by
  simp only[bN.ok,h1]at h
  cases d<;>simp only at h
  rename_i ds
  refine⟨ds,rfl,?_⟩
  obtain⟨hl,h⟩:=h
  have key:∀(l:List Field) (ds:List bN),ds.length=l.length→(∀(i:Nat) f d,l[i]? = some f→ds[i]? = some d→bN.ok P n f.type d)→aY P n (l.map (·.type)) ds:=by
    intro l
    induction l with
    | nil=>intro ds h _;rw[List.length_eq_zero_iff.1 h];trivial
    | cons f l ih=>
      intro ds hl h
      match ds,hl with
      | d::ds,hl=>exact⟨h 0 f d rfl rfl,ih ds (by simpa using hl) (fun i f d a b=>h (i+1) f d (by simpa using a) (by simpa using b))⟩
  exact key fs.toList ds (by simpa using hl) (fun i f d a b=>h i f d (by simpa using a) b)
end
end Go.AM
namespace Go.AM
theorem DN{P:Program}{n:Nat}{t:TypeId}{fs:Array Field}(h1:P.underlying t=some (.struct fs)){d:bN}(h:bN.ok P n t d){cs:List AV}(hc:d.cells=cs):d.av=.agg cs:=by
  cases n with
  | zero=>exact h.elim
  | succ n=>
    simp only[bN.ok,h1]at h
    cases d<;>simp only at h
    simp only[bN.cells]at hc
    simp only[bN.av,hc]
end Go.AM
namespace Go.AM
section
variable {P:Program} {Θ:jL} {Γ:bG}
theorem GR(z:List AV):sub z 0 0=some []:=by simp[sub]
theorem FM(a:AV)(z:List AV)(n:Nat):sub (a::z) 0 (n+1)=(sub z 0 n).map (a :: ·):=by
  simp only[sub,Nat.zero_add,List.length_cons,List.drop_zero]
  by_cases h:n≤z.length
  · rw[if_pos (by omega),if_pos h];rfl
  · rw[if_neg (by omega),if_neg h];rfl
theorem Hh(a:AV)(z:List AV)(o n:Nat):sub (a::z) (o+1) n=sub z o n:=by
  simp only[sub,List.length_cons,List.drop_succ_cons]
  by_cases h:o+n≤z.length
  · rw[if_pos (by omega),if_pos h]
  · rw[if_neg (by omega),if_neg h]
def jz:List AV→Nat→List AV→Option (List AV)
  | z,0,[]=>some z
  | _::z,0,x::vs=>if b8 x=true then (jz z 0 vs).map (x :: ·)else none
  | a::z,n+1,vs=>(jz z n vs).map (a :: ·)
  | [],0,_::_=>none
  | [],_+1,_=>none
theorem p6:∀(z:List AV) (o:Nat) (vs z':List AV),jz z o vs=some z'→o+vs.length≤z.length∧vs.all b8=true∧z'=over z o vs
  | z,0,[],z',h=>by simp[jz]at h;subst h;simp[over]
  | a::z,0,x::vs,z',h=>by
    simp only[jz]at h
    split at h
    · rename_i hx
      rw[Option.map_eq_some_iff]at h
      obtain⟨y,h1,rfl⟩:=h
      obtain⟨h2,h3,rfl⟩:=p6 z 0 vs y h1
      refine⟨by simp at h2 ⊢;omega,by simp[hx,h3],?_⟩
      simp[over]
    · cases h
  | a::z,n+1,vs,z',h=>by
    simp only[jz,Option.map_eq_some_iff]at h
    obtain⟨y,h1,rfl⟩:=h
    obtain⟨h2,h3,rfl⟩:=p6 z n vs y h1
    refine⟨by simp;omega,h3,?_⟩
    simp[over,show n+1+vs.length=(n+vs.length)+1 by omega]
  | [],0,_::_,_,h=>by simp[jz]at h
  | [],_+1,_,_,h=>by simp[jz]at h
theorem HQ(z:List AV):jz z 0 []=some z:=by cases z<;>rfl
theorem HD(a x:AV)(z vs:List AV):jz (a::z) 0 (x::vs)=if b8 x=true then (jz z 0 vs).map (x :: ·)else none:=rfl
theorem IT(a:AV)(z vs:List AV)(n:Nat):jz (a::z) (n+1) vs=(jz z n vs).map (a :: ·):=rfl
theorem bS{e:List AV}{L zs:List (List AV)}{h:AH}{i off:Nat}{z vs z':List AV}(hi:zs[i]? = some z)(hs:jz z off vs=some z'):(St.mk e (L++zs) h).store (.lp (L.length+i) off) vs=some ⟨e,L++zs.set i z',h⟩:=by
  obtain⟨h1,h2,rfl⟩:=p6 z off vs z' hs
  have hl:(L++zs)[L.length+i]? = some z:=by rw[List.getElem?_append_right (by omega)];simpa using hi
  simp only[St.store,hl,Option.bind_some,if_pos h1,h2,if_true]
  rw[List.set_append_right _ _ (by omega)]
  simp
theorem bT{e:List AV}{L zs:List (List AV)}{h:AH}{i off n:Nat}{z:List AV}(hi:zs[i]? = some z):(St.mk e (L++zs) h).cells (.lp (L.length+i) off) n=sub z off n:=by
  have hl:(L++zs)[L.length+i]? = some z:=by rw[List.getElem?_append_right (by omega)];simpa using hi
  simp only[St.cells,hl,Option.bind_some]
theorem X3(e:List AV)(L zs:List (List AV))(z:List AV)(h:AH)(off n:Nat):(St.mk e (L++z::zs) h).cells (.lp L.length off) n=sub z off n:=bT (i:=0) rfl
theorem XL(e:List AV)(L zs:List (List AV))(a z:List AV)(h:AH)(off n:Nat):(St.mk e (L++a::z::zs) h).cells (.lp (L.length+1) off) n=sub z off n:=bT (i:=1) rfl
theorem XC(e:List AV)(L zs:List (List AV))(a b z:List AV)(h:AH)(off n:Nat):(St.mk e (L++a::b::z::zs) h).cells (.lp (L.length+2) off) n=sub z off n:=bT (i:=2) rfl
theorem XY(e:List AV)(L zs:List (List AV))(a b c z:List AV)(h:AH)(off n:Nat):(St.mk e (L++a::b::c::z::zs) h).cells (.lp (L.length+3) off) n=sub z off n:=bT (i:=3) rfl
def gw(f:List AV→St)(alt:Option St):Option (List AV)→Option St|some z=>some (f z)|none=>alt
def dY(s:St)(a:AV)(vs:List AV):Option St:=s.store a vs
theorem HF(f:List AV→St)(alt:Option St)(z:List AV):gw f alt (some z)=some (f z):=rfl
theorem cC{s:St}{a:AV}{vs:List AV}{o:Option (List AV)}{f:List AV→St}(h:∀z,o=some z→s.store a vs=some (f z)):s.store a vs=gw f (dY s a vs) o:=by
  cases o with
  | none=>rfl
  | some z=>exact h z rfl
theorem YA(e:List AV)(L zs:List (List AV))(z:List AV)(h:AH)(off:Nat)(vs:List AV):(St.mk e (L++z::zs) h).store (.lp L.length off) vs=gw (fun z'=>⟨e,L++z'::zs,h⟩) (dY ⟨e,L++z::zs,h⟩ (.lp L.length off) vs) (jz z off vs):=
  cC fun _ hs=>bS (i:=0) rfl hs
theorem YI(e:List AV)(L zs:List (List AV))(a z:List AV)(h:AH)(off:Nat)(vs:List AV):(St.mk e (L++a::z::zs) h).store (.lp (L.length+1) off) vs=gw (fun z'=>⟨e,L++a::z'::zs,h⟩) (dY ⟨e,L++a::z::zs,h⟩ (.lp (L.length+1) off) vs) (jz z off vs):=
  cC fun _ hs=>bS (i:=1) rfl hs
theorem YC(e:List AV)(L zs:List (List AV))(a b z:List AV)(h:AH)(off:Nat)(vs:List AV):(St.mk e (L++a::b::z::zs) h).store (.lp (L.length+2) off) vs=gw (fun z'=>⟨e,L++a::b::z'::zs,h⟩) (dY ⟨e,L++a::b::z::zs,h⟩ (.lp (L.length+2) off) vs) (jz z off vs):=
  cC fun _ hs=>bS (i:=2) rfl hs
theorem Yx(e:List AV)(L zs:List (List AV))(a b c z:List AV)(h:AH)(off:Nat)(vs:List AV):(St.mk e (L++a::b::c::z::zs) h).store (.lp (L.length+3) off) vs=gw (fun z'=>⟨e,L++a::b::c::z'::zs,h⟩) (dY ⟨e,L++a::b::c::z::zs,h⟩ (.lp (L.length+3) off) vs) (jz z off vs):=
  cC fun _ hs=>bS (i:=3) rfl hs
theorem Yz(L:List (List AV))(a:List AV):(L++[a]).length=L.length+1:=by simp
theorem XH(L:List (List AV))(a b:List AV):(L++[a,b]).length=L.length+2:=by simp
theorem XK(L:List (List AV))(a b c:List AV):(L++[a,b,c]).length=L.length+3:=by simp
theorem YM(L:List (List AV))(a z:List AV):(L++[a])++[z]=L++[a,z]:=by simp
theorem XV(L:List (List AV))(a b z:List AV):(L++[a,b])++[z]=L++[a,b,z]:=by simp
theorem YG(L:List (List AV))(a b c z:List AV):(L++[a,b,c])++[z]=L++[a,b,c,z]:=by simp
theorem Eh(k:IntKind)(n:Int):b8 (.int k n)=true:=rfl
theorem OX(b:Bool):b8 (.bool b)=true:=rfl
theorem NV(b:ByteArray):b8 (.str b)=true:=rfl
theorem I4(s:SH)(sz:Nat)(xs:List (List AV)):b8 (sl s sz xs)=true:=by cases s<;>rfl
theorem Fs(b g off len cap sz:Nat)(ex:Bool):b8 (.gs b g off len cap sz ex)=true:=rfl
theorem jn{α β:Type}(f:α→β)(x:α):Option.map f (some x)=some (f x):=rfl
theorem R7{α β:Type}(f:α→Option β)(x:α):Option.bind (some x) f=f x:=rfl
theorem SL(s:St)(n:Nat)(a:AV)(cs:List AV):mq s n a (some cs)=if cs.length=n then .AG (s.store a cs)else .stuck:=rfl
theorem Pb:List.length ([]:List AV)=0:=rfl
theorem Tk(x:AV)(xs:List AV):(x::xs).length=xs.length+1:=rfl
theorem Lx(l:List AV):l.drop 0=l:=rfl
theorem Nx(a:AV)(l:List AV)(n:Nat):(a::l).drop (n+1)=l.drop n:=rfl
theorem Rl(n:Nat):0+n=n:=Nat.zero_add n
def jd(v:AV):Option Nat:=(xA v).bind fun i=>if 0≤i then some i.toNat else none
def kE(k:SK)(s:St)(v hi:AV):AR:=match jd hi with|some h=>.eI s (eL k v 0 (some h) none)|none=>.stuck
def cutFrom(k:SK)(s:St)(v lo:AV):AR:=match jd lo with|some l=>.eI s (eL k v l none none)|none=>.stuck
def oY(k:SK)(s:St)(v lo hi:AV):AR:=match jd lo,jd hi with|some l,some h=>.eI s (eL k v l (some h) none)|_,_=>.stuck
theorem uU(gl:Bool)(s:St)(k:SK)(x y:X):step Γ gl s (.slice k x none (some y) none)=kE k s (s.eval Γ x) (s.eval Γ y):=by
  simp only[step,kE,oM,jd]
  cases(xA (s.eval Γ y)).bind fun i=>if 0≤i then some i.toNat else none<;>rfl
theorem ke(gl:Bool)(s:St)(k:SK)(x y:X):step Γ gl s (.slice k x (some y) none none)=cutFrom k s (s.eval Γ x) (s.eval Γ y):=by
  simp only[step,cutFrom,oM,jd]
  cases(xA (s.eval Γ y)).bind fun i=>if 0≤i then some i.toNat else none<;>rfl
theorem se(gl:Bool)(s:St)(k:SK)(x y z:X):step Γ gl s (.slice k x (some y) (some z) none)=oY k s (s.eval Γ x) (s.eval Γ y) (s.eval Γ z):=by
  simp only[step,oY,oM,jd]
  cases(xA (s.eval Γ y)).bind fun i=>if 0≤i then some i.toNat else none<;>cases(xA (s.eval Γ z)).bind fun i=>if 0≤i then some i.toNat else none<;>rfl
def SH.cut(s:SH)(b:Bool):SH:=match s with|.nil=>.nil|.v β ex=>.v β (ex && b)
theorem ee{e:List AV}{l:List (List AV)}{H:AH}{b off n g:Nat}{cs:List AV}(h:bA H b=some (g,cs)):(St.mk e l H).cells (.gp b g off) n=sub cs off n:=by
  simp only[St.cells,h,Option.bind_some,if_true]
end
theorem EB:type_of% (And.intro @GR (And.intro @FM (And.intro @Hh (And.intro @HQ (And.intro @HD (And.intro @IT (And.intro @X3 (And.intro @XL (And.intro @XC (And.intro @XY (And.intro @YA (And.intro @YI (And.intro @YC (And.intro @Yx (And.intro @HF (And.intro @Yz (And.intro @XH (And.intro @XK (And.intro @YM (And.intro @XV (And.intro @YG (And.intro @Eh (And.intro @OX (And.intro @NV (And.intro @I4 (And.intro @Fs (And.intro @jn (And.intro @uU (And.intro @ke (And.intro @se (And.intro @Lx (And.intro @Nx (And.intro @R7 (And.intro @SL (And.intro @Pb (And.intro @Tk (@Rl))))))))))))))))))))))))))))))))))))):=And.intro @GR (And.intro @FM (And.intro @Hh (And.intro @HQ (And.intro @HD (And.intro @IT (And.intro @X3 (And.intro @XL (And.intro @XC (And.intro @XY (And.intro @YA (And.intro @YI (And.intro @YC (And.intro @Yx (And.intro @HF (And.intro @Yz (And.intro @XH (And.intro @XK (And.intro @YM (And.intro @XV (And.intro @YG (And.intro @Eh (And.intro @OX (And.intro @NV (And.intro @I4 (And.intro @Fs (And.intro @jn (And.intro @uU (And.intro @ke (And.intro @se (And.intro @Lx (And.intro @Nx (And.intro @R7 (And.intro @SL (And.intro @Pb (And.intro @Tk (@Rl))))))))))))))))))))))))))))))))))))
end Go.AM
namespace Go.AM
section
variable {P:Program} {Θ:jL} {Γ:bG}
abbrev Di(P:Program)(Θ:jL)(Γ:bG)(f:FuncId)(c:C)(rs:List RS)(us:List AV):Prop:=
  ∀{a0:AV} {h:AH} {K:AV→AH→Prop},TC P Θ Γ c (aW rs K) ⟨a0::us,[],h⟩→T P Γ f [a0] h K
def Nr(szs sz bytes:Nat)(z:List AV)(f:FuncId):C:=.seq (.reg [⟨(some 2),none,.mov (.c (.nils))⟩]) (.seq (.reg [⟨(some 5),none,.mov (.t 0)⟩,
  ⟨(some 6),none,.len false (.t 5)⟩,
  ⟨(some 7),none,.mks sz bytes z (.t 6) (.t 6)⟩,
  ⟨(some 3),none,.mov (.t 7)⟩]) (.seq (.seq (.reg [⟨(some 4),none,.mov (.c (.int .i64 0))⟩]) (.block 0 (.loop (.seq (.seq (.reg [⟨(some 8),none,.mov (.t 4)⟩,
  ⟨(some 9),none,.mov (.t 0)⟩,
  ⟨(some 10),none,.len false (.t 9)⟩,
  ⟨(some 11),none,.bin .lss (.num) (.t 8) (.t 10)⟩]) (.cond (.t 11) (.skip) (.exit 0))) (.seq (.block 1 (.reg [⟨(some 14),none,.mov (.t 3)⟩,
  ⟨(some 15),none,.mov (.t 4)⟩,
  ⟨(some 16),none,.mov (.t 0)⟩,
  ⟨(some 17),none,.mov (.t 4)⟩,
  ⟨(some 18),none,.idxs szs (.t 16) (.t 17)⟩,
  ⟨(some 19),none,.load szs true (.t 18)⟩,
  ⟨(some 20),none,.call (.c (.fn f [] [])) [.t 19]⟩,
  ⟨(some 21),none,.idxs sz (.t 14) (.t 15)⟩,
  ⟨none,none,.store sz (.t 21) (.t 20)⟩])) (.reg [⟨(some 12),none,.mov (.t 4)⟩,
  ⟨(some 13),none,.bin .add (.num) (.t 12) (.c (.int .i64 1))⟩,
  ⟨(some 4),none,.mov (.t 13)⟩])))))) (.seq (.reg [⟨(some 22),none,.mov (.t 3)⟩,
  ⟨(some 2),none,.mov (.t 22)⟩]) (.ret))))
def Hs(sz:Nat)(f:FuncId):List O:=[⟨(some 17),none,.mov (.t 0)⟩,
  ⟨(some 18),none,.mov (.t 5)⟩,
  ⟨(some 19),none,.idxs sz (.t 17) (.t 18)⟩,
  ⟨(some 20),none,.load sz true (.t 19)⟩,
  ⟨(some 21),none,.mov (.t 1)⟩,
  ⟨(some 22),none,.mov (.t 5)⟩,
  ⟨(some 23),none,.idxs sz (.t 21) (.t 22)⟩,
  ⟨(some 24),none,.load sz true (.t 23)⟩,
  ⟨(some 25),none,.call (.c (.fn f [] [])) [.t 20,.t 24]⟩,
  ⟨(some 26),none,.un .not (.t 25)⟩]
def JQ:List (List Nat):=[[],[],[0,1],[2],[],[],[4,5],[6],[3,7],[8]]
theorem SX(sz:Nat)(f:FuncId)(gl:Gl)(Q:AE→St→Prop)(s:St):aw P Θ Γ gl (.regD (Hs sz f) JQ) Q s=bV P Γ gl [⟨(some 17),none,.mov (.t 0)⟩,
  ⟨(some 18),none,.mov (.t 5)⟩,
  ⟨(some 19),none,.idxs sz (.t 17) (.t 18)⟩,
  ⟨(some 20),none,.load sz true (.t 19)⟩,
  ⟨(some 21),none,.mov (.t 1)⟩,
  ⟨(some 22),none,.mov (.t 5)⟩,
  ⟨(some 23),none,.idxs sz (.t 21) (.t 22)⟩,
  ⟨(some 24),none,.load sz true (.t 23)⟩,
  ⟨(some 25),none,.call (.c (.fn f [] [])) [.t 20,.t 24]⟩,
  ⟨(some 26),none,.un .not (.t 25)⟩] (Q .normal) 10 (.q 0 (.q 1 (.q 2 (.q 3 (.q 4 (.q 5 (.q 6 (.q 7 (.q 8 (.q 9 (.done))))))))))) s:=eX rfl (by kernel_rfl) gl Q s
def Rk(sz:Nat)(f:FuncId):C:=.seq (.reg [⟨(some 4),none,.mov (.c (.bool false))⟩]) (.seq (.seq (.reg [⟨(some 6),none,.mov (.t 0)⟩,
  ⟨(some 7),none,.len false (.t 6)⟩,
  ⟨(some 8),none,.mov (.t 1)⟩,
  ⟨(some 9),none,.len false (.t 8)⟩,
  ⟨(some 10),none,.bin .neq (.num) (.t 7) (.t 9)⟩]) (.cond (.t 10) (.seq (.reg [⟨(some 4),none,.mov (.c (.bool false))⟩]) (.ret)) (.skip))) (.seq (.seq (.reg [⟨(some 5),none,.mov (.c (.int .i64 0))⟩]) (.block 0 (.loop (.seq (.seq (.reg [⟨(some 11),none,.mov (.t 5)⟩,
  ⟨(some 12),none,.mov (.t 0)⟩,
  ⟨(some 13),none,.len false (.t 12)⟩,
  ⟨(some 14),none,.bin .lss (.num) (.t 11) (.t 13)⟩]) (.cond (.t 14) (.skip) (.exit 0))) (.seq (.block 1 (.seq (.regD (Hs sz f) JQ) (.cond (.t 26) (.seq (.reg [⟨(some 4),none,.mov (.c (.bool false))⟩]) (.ret)) (.skip)))) (.reg [⟨(some 15),none,.mov (.t 5)⟩,
  ⟨(some 16),none,.bin .add (.num) (.t 15) (.c (.int .i64 1))⟩,
  ⟨(some 5),none,.mov (.t 16)⟩])))))) (.seq (.reg [⟨(some 4),none,.mov (.c (.bool true))⟩]) (.ret))))
end
end Go.AM
