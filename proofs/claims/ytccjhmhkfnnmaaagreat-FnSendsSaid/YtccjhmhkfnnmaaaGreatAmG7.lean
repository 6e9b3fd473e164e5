import Derived.Test.YtccjhmhkfnnmaaaGreatAmG6
import Derived.ChangeArms
import Derived.ChangeSame
import Derived.ChangeOld
import Derived.ChangeShapes
import Derived.RowKit
import Derived.RowKit3
set_option linter.unusedVariables false
set_option linter.unusedSimpArgs false
namespace Go.AM
open Go.ChangeShapes
inductive gr where
  | b (x:Bool)|i (k:IntKind) (n:Int)|s (x:ByteArray)|sl (h:SH) (sz:Nat) (xs:List gr)|st (fs:List gr)
  deriving Inhabited
mutual
def gr.cells:gr→List AV
  | .b x=>[.bool x]
  | .i k n=>[.int k n]
  | .s x=>[.str x]
  | .sl h sz xs=>[AM.sl h sz (gr.pj xs)]
  | .st fs=>gr.ua fs
def gr.pj:List gr→List (List AV)
  | []=>[]
  | d::r=>d.cells::gr.pj r
def gr.ua:List gr→List AV
  | []=>[]
  | d::r=>d.cells++gr.ua r
end
theorem gr.uP:∀(xs:List gr),gr.pj xs=xs.map gr.cells
  | []=>rfl
  | d::r=>by simp[gr.pj,gr.uP r]
section
variable (P:Program)
def tR:Nat→List Field→Nat→Bool
  | o,[],n=>o == n
  | o,f::r,n=>f.offset == o && tR (o+P.cellsOf f.type) r n
def gv:Nat→TypeId→Bool
  | 0,_=>false
  | n+1,t=>match P.underlying t with
    | some .bool|some (.int _)|some .string=>P.cellsOf t == 1
    | some (.slice e)=>P.cellsOf t == 1 && decide (0<P.cellsOf e) && gv n e
    | some (.struct fs)=>tR P 0 fs.toList (P.cellsOf t) && fs.toList.all fun f=>gv n f.type
    | _=>false
def gr.ok:Nat→TypeId→gr→Prop
  | 0,_,_=>False
  | n+1,t,d=>match P.underlying t,d with
    | some .bool,.b _=>True
    | some (.int k),.i k' m=>k'=k∧(Lit.int k m).wf=true
    | some .string,.s x=>x.size≤maxLen
    | some (.slice e),.sl h sz xs=>sz=P.cellsOf e∧h=.v false false∧xs.length≤maxLen∧∀x∈xs,gr.ok n e x
    | some (.struct fs),.st ds=>ds.length=fs.size∧∀(i:Nat) f d,fs[i]? = some f→ds[i]? = some d→gr.ok n f.type d
    | _,_=>False
end
section
variable {P:Program} {Γ:bY} {H:Type} {enc:TypeId×Value→H} {W:World}
def gD(W:World):fI where
  m:=fun _ _=>none
  imm:=fun β c=>if β=true then none else match W.heap[c]? with|some (.cells arr _ _)=>some arr|_=>none
theorem K8(W:World):RH (gD W) [] [] [] W:=by
  refine⟨fun b g cs h=>by simp at h,fun i cs h=>by simp at h,rfl,fun i j c h=>by simp at h,fun b g cs _ _ _ _ _ _ _ _ h=>by simp at h,fun b g cs _ _ _ _ h=>by simp at h,?_,fun _ _ _ _ _ h=>by simp at h,fun _ _ _ _ _ _ _ _ _ h=>by simp at h,fun b g c o n h=>by simp[gD]at h⟩
  intro β c arr h
  simp only[gD]at h
  split at h
  · cases h
  · split at h
    · rename_i arr' T fr hh
      injection h with h
      subst h
      exact⟨T,fr,hh⟩
    · cases h
theorem zS{a:Addr}{v:Value}(h:W.cell? a=some v):a.spot=none∧∃arr,(gD W).imm false a.block=some arr∧arr[a.off]? = some v:=by
  unfold World.cell? at h
  split at h
  · rename_i c T fr hh
    split at h
    · cases h
    · rename_i hs
      refine⟨by cases hsp:a.spot<;>simp[hsp]at hs ⊢,c,?_,h⟩
      simp[gD,hh]
  · cases h
theorem By(a:Addr)(n:Nat):(a.add n).off=a.off+n:=by unfold Addr.add;split<;>simp_all
theorem wm(a:Addr)(n:Nat):(a.add n).block=a.block:=by unfold Addr.add;split<;>simp_all
theorem oG{ρ ls}{x:AV}{v:Value}(h:RV ρ ls x v):gy ρ ls [x] [v]:=
  ⟨rfl,fun i y hy=>by
    cases i with
    | zero=>simp at hy;subst hy;exact h
    | succ i=>simp at hy⟩
theorem Ea:∀(n:Nat) (t:TypeId) (fuel:Nat) (cs:List Value) (x:DataW H×List MemPlace),gv P n t=true→DataW.trod enc P W 0 (fun _=>true) true fuel t cs=some x→
    ∃d,gr.ok P n t d∧gy (gD W) [] d.cells cs∧cs.length=P.cellsOf t:=by
  intro n
  induction n with
  | zero=>intro t fuel cs x h;simp[gv]at h
  | succ n ih=>
    intro t fuel cs x hp h
    simp only[gv]at hp
    split at hp
    · rename_i hu
      obtain⟨b,rfl,_⟩:=DataW.trod_bool hu h
      exact⟨.b b,by simp[gr.ok,hu],oG (.bool _ _),by simpa using(by simpa using hp:P.cellsOf t=1).symm⟩
    · rename_i k hu
      obtain⟨m,rfl,_,hw⟩:=DataW.trod_int hu h
      exact⟨.i k m,by simp[gr.ok,hu,hw],oG (.int _ _ _),by simpa using(by simpa using hp:P.cellsOf t=1).symm⟩
    · rename_i hu
      obtain⟨b,rfl,_,hs⟩:=DataW.trod_string hu h
      exact⟨.s b,by simp[gr.ok,hu,hs],oG (.str _ _),by simpa using(by simpa using hp:P.cellsOf t=1).symm⟩
    · rename_i e hu
      simp only[Bool.and_eq_true,beq_iff_eq,decide_eq_true_eq]at hp
      obtain⟨⟨hp1,hp2⟩,hp3⟩:=hp
      rcases DataW.trod_slice hu h with⟨rfl,_⟩|⟨a,len,cap,elems,rest,m,_,rfl,_,_,hl,hm,hlen,hel,_,_⟩
      · exact⟨.sl (.v false false) (P.cellsOf e) [],by simp[gr.ok,hu],oG (.vsn _ _ _ _),by simp[hp1]⟩
      · have each:∀i,i<len→∃d cs',gr.ok P n e d∧W.cells? 0 (a.add (i*P.cellsOf e)) (P.cellsOf e)=some cs'∧gy (gD W) [] d.cells cs'∧cs'.length=P.cellsOf e:=by
          intro i hi
          have:=hel i hi
          rw[List.getElem?_eq_getElem (by omega),Option.bind_eq_some_iff]at this
          obtain⟨cs',h1,h2⟩:=this
          obtain⟨d,g1,g2,g3⟩:=ih e m cs' _ hp3 h2
          exact⟨d,cs',g1,h1,g2,g3⟩
        let ds:List gr:=(List.range len).attach.map fun i=>(each i.1 (List.mem_range.1 i.2)).choose
        have hds:ds.length=len:=by simp[ds]
        have b7:∀(i:Nat) (d:gr),ds[i]? = some d→i<len∧∃cs',gr.ok P n e d∧W.cells? 0 (a.add (i*P.cellsOf e)) (P.cellsOf e)=some cs'∧gy (gD W) [] d.cells cs'∧cs'.length=P.cellsOf e:=by
          intro i d hd
          have hi:i<len:=by have:=ay hd;omega
          refine⟨hi,?_⟩
          have:d=(each i hi).choose:=by
            simp only[ds,List.getElem?_map,Option.map_eq_some_iff]at hd
            obtain⟨x,hx,rfl⟩:=hd
            have hx':x.1=i:=by
              have:=congrArg (Option.map Subtype.val) hx
              simp[hi]at this
              exact this.symm
            obtain⟨y,hy⟩:=x
            subst hx'
            rfl
          rw[this]
          exact(each i hi).choose_spec
        refine⟨.sl (.v false false) (P.cellsOf e) ds,?_,oG ?_,by simp[hp1]⟩
        · simp only[gr.ok,hu]
          refine⟨trivial,trivial,by omega,fun d hd=>?_⟩
          obtain⟨i,hi⟩:=List.mem_iff_getElem?.1 hd
          obtain⟨_,_,h1,_⟩:=b7 i d hi
          exact h1
        · simp only[sl,gr.uP]
          rcases Nat.eq_zero_or_pos len with h0|hpos
          · have:ds=[]:=List.length_eq_zero_iff.1 (by omega)
            rw[this,h0]
            exact .vs0 _ false _ false a cap (by simp)
          · have look:∀(i:Nat) (l:List AV),(ds.map gr.cells)[i]? = some l→i<len∧l.length=P.cellsOf e∧∀(j:Nat) (x:AV),l[j]? = some x→∃v,W.cell? ((a.add (i*P.cellsOf e)).add j)=some v∧RV (gD W) [] x v:=by
              intro i l hl'
              rw[List.getElem?_map,Option.map_eq_some_iff]at hl'
              obtain⟨d,hd,rfl⟩:=hl'
              obtain⟨hi,cs',_,g2,g3,g4⟩:=b7 i d hd
              obtain⟨_,c2,c3⟩:=World.cells?_some g2
              refine⟨hi,by rw[g3.1];exact g4,fun j x hx=>?_⟩
              have hj:j<P.cellsOf e:=by have:=ay hx;have:=g3.1;omega
              have hr:=g3.2 j x hx
              rw[List.getD_eq_getElem?_getD,List.getElem?_eq_getElem (by omega)]at hr
              have hjl:j<cs'.length:=by omega
              exact⟨cs'[j],by rw[c3 j hj,List.getElem?_eq_getElem hjl],by simpa using hr⟩
            have hspot:a.spot=none:=by
              have hd0:ds[0]? = some ds[0]:=List.getElem?_eq_getElem (by omega)
              obtain⟨_,cs',_,g2,_,g4⟩:=b7 0 _ hd0
              obtain⟨_,c2,c3⟩:=World.cells?_some g2
              have:=c3 0 hp2
              rw[List.getElem?_eq_getElem (by omega)]at this
              have:=(zS this).1
              simpa[Addr.add]using this
            obtain⟨ab,ao,asp⟩:=a
            simp only at hspot
            subst hspot
            have hcell:∀(i j:Nat) (v:Value),W.cell? ((Addr.add ⟨ab,ao,none⟩ (i*P.cellsOf e)).add j)=some v→∃arr,(gD W).imm false ab=some arr∧arr[ao+(i*P.cellsOf e+j)]? = some v:=by
              intro i j v hv
              obtain⟨_,arr,h1,h2⟩:=zS hv
              rw[wm,wm]at h1
              rw[By,By,Nat.add_assoc]at h2
              exact⟨arr,h1,h2⟩
            have hv:∀i j,∃v,∀l x,(ds.map gr.cells)[i]? = some l→l[j]? = some x→W.cell? ((Addr.add ⟨ab,ao,none⟩ (i*P.cellsOf e)).add j)=some v∧RV (gD W) [] x v:=by
              intro i j
              by_cases hx:∃l x,(ds.map gr.cells)[i]? = some l∧l[j]? = some x
              · obtain⟨l,x,h1,h2⟩:=hx
                obtain⟨_,_,h3⟩:=look i l h1
                obtain⟨v,h4,h5⟩:=h3 j x h2
                refine⟨v,fun l' x' e1 e2=>?_⟩
                rw[h1]at e1;injection e1 with e1;subst e1
                rw[h2]at e2;injection e2 with e2;subst e2
                exact⟨h4,h5⟩
              · exact⟨default,fun l x e1 e2=>absurd ⟨l,x,e1,e2⟩ hx⟩
            have:=RV.vs (ρ:=gD W) [] false (P.cellsOf e) false (ds.map gr.cells) ab ao cap (fun i j=>(hv i j).choose) (by simp[hds];omega) (by simp) (fun i l h=>(look i l h).2.1)
              (fun i l h1 j x h2=>by
                have:=((hv i j).choose_spec l x h1 h2).1
                exact hcell i j _ this)
              (fun i l h1 j x h2=>((hv i j).choose_spec l x h1 h2).2)
            simpa[hds]using this
    · rename_i fs hu
      simp only[Bool.and_eq_true]at hp
      obtain⟨hc,ha⟩:=hp
      obtain⟨xs,m,_,_,hl,hlen,hf⟩:=DataW.trod_struct hu h
      have key:∀(l:List Field) (o k:Nat),tR P o l (P.cellsOf t)=true→(∀f∈l,gv P n f.type=true)→(∀(i:Nat) (f:Field),l[i]? = some f→∃y,DataW.trod enc P W 0 (fun _=>true) true m f.type ((cs.drop f.offset).take (P.cellsOf f.type))=some y)→
          ∃ds:List gr,ds.length=l.length∧(∀(i:Nat) f d,l[i]? = some f→ds[i]? = some d→gr.ok P n f.type d)∧gy (gD W) [] (gr.ua ds) (cs.drop o):=by
        intro l
        induction l with
        | nil=>
          intro o k h1 _ _
          simp only[tR,beq_iff_eq]at h1
          exact⟨[],rfl,fun i f d h=>by simp at h,by rw[List.drop_of_length_le (by omega)];exact⟨rfl,fun i x h=>by simp[gr.ua]at h⟩⟩
        | cons f l ihl=>
          intro o k h1 h2 h3
          simp only[tR,Bool.and_eq_true,beq_iff_eq]at h1
          obtain⟨rfl,h1⟩:=h1
          obtain⟨y,hy⟩:=h3 0 f rfl
          obtain⟨d,d1,d2,d3⟩:=ih f.type m _ y (h2 f (by simp)) hy
          obtain⟨ds,e1,e2,e3⟩:=ihl _ k h1 (fun g hg=>h2 g (by simp[hg])) (fun i g hg=>h3 (i+1) g (by simpa using hg))
          refine⟨d::ds,by simp[e1],fun i g d' hg hd=>?_,?_⟩
          · cases i with
            | zero=>simp at hg hd;subst hg;subst hd;exact d1
            | succ i=>exact e2 i g d' (by simpa using hg) (by simpa using hd)
          · have:cs.drop f.offset=(cs.drop f.offset).take (P.cellsOf f.type)++cs.drop (f.offset+P.cellsOf f.type):=by
              conv=>lhs;rw[←List.take_append_drop (P.cellsOf f.type) (cs.drop f.offset)]
              rw[List.drop_drop]
            rw[this]
            exact d2.append e3
      obtain⟨ds,e1,e2,e3⟩:=key fs.toList 0 0 hc (fun f hf'=>List.all_eq_true.1 ha f hf') (fun i f hf'=>by
        have:=hf i f (by simpa using hf')
        have hi:i<xs.length:=by have:=ay hf';simp at this;omega
        exact⟨xs[i],by rw[this,List.getElem?_eq_getElem hi]⟩)
      refine⟨.st ds,?_,by simpa[gr.cells]using e3,hl⟩
      simp only[gr.ok,hu]
      exact⟨by simpa using e1,fun i f d h1 h2=>e2 i f d (by simpa using h1) h2⟩
    · cases hp
theorem mY{α β:Type}{f g:α→Option β}:∀{l:List α} {r:List β},(∀x∈l,∀y∈r,f x=some y→g x=some y)→l.mapM f=some r→l.mapM g=some r
  | [],r,_,h=>by simpa using h
  | a::l,r,hi,h=>by
    rw[List.mapM_cons]at h ⊢
    cases ha:f a with
    | none=>simp[ha]at h
    | some b=>
      cases hl:l.mapM f with
      | none=>simp[ha,hl]at h
      | some bs=>
        simp[ha,hl]at h
        subst h
        have h1:=hi a (by simp) b (by simp) ha
        have h2:=mY (l:=l) (r:=bs) (g:=g) (fun x hx y hy=>hi x (by simp[hx]) y (by simp[hy])) hl
        simp[h1,h2]
variable {W':World}
theorem EP(hk:∀c,c<W.heap.size→W'.heap[c]? = W.heap[c]?){a:Addr}{v:Value}(h:W.cell? a=some v):W'.cell? a=some v:=by
  unfold World.cell? at h ⊢
  have:a.block<W.heap.size:=by
    rcases Nat.lt_or_ge a.block W.heap.size with h'|h'
    · exact h'
    · rw[Array.getElem?_eq_none h']at h;cases h
  rw[hk _ this]
  exact h
theorem CA(hk:∀c,c<W.heap.size→W'.heap[c]? = W.heap[c]?){a:Addr}{n:Nat}{cs:List Value}(h:W.cells? 0 a n=some cs):W'.cells? 0 a n=some cs:=by
  unfold World.cells? at h ⊢
  simp only[Nat.zero_le,if_true]at h ⊢
  exact mY (fun x _ y _ e=>EP hk e) h
theorem Bb(hk:∀c,c<W.heap.size→W'.heap[c]? = W.heap[c]?):∀(n:Nat) (t:TypeId) (fuel:Nat) (cs:List Value) (x:DataW H×List MemPlace),gv P n t=true→DataW.trod enc P W 0 (fun _=>true) true fuel t cs=some x→
    ∀sp:Nat→Bool,(∀p∈x.2,sp p.block=true)→DataW.trod enc P W' 0 sp true fuel t cs=some x:=by
  intro n
  induction n with
  | zero=>intro t fuel cs x h;simp[gv]at h
  | succ n ih=>
    intro t fuel cs x hp h sp hsp
    cases fuel with
    | zero=>simp[DataW.trod]at h
    | succ m=>
    simp only[gv]at hp
    split at hp
    · rename_i hu
      obtain⟨b,rfl,rfl⟩:=DataW.trod_bool hu h
      simp[DataW.trod,hu]
    · rename_i k hu
      obtain⟨z,rfl,rfl,hw⟩:=DataW.trod_int hu h
      simp[DataW.trod,hu,hw]
    · rename_i hu
      obtain⟨b,rfl,rfl,hs⟩:=DataW.trod_string hu h
      simp[DataW.trod,hu,hs]
    · rename_i e hu
      simp only[Bool.and_eq_true,beq_iff_eq,decide_eq_true_eq]at hp
      obtain⟨⟨hp1,hp2⟩,hp3⟩:=hp
      rcases DataW.trod_slice hu h with⟨rfl,rfl⟩|⟨a,len,cap,_,_,_,_,rfl,_,_,hl,hm,_⟩
      · simp[DataW.trod,hu]
      · unfold DataW.trod at h ⊢
        rw[hu]at h ⊢
        simp only[Nat.zero_le,hl,hm,and_self,if_true]at h ⊢
        rw[Option.bind_eq_some_iff]at h ⊢
        obtain⟨elems,he,h⟩:=h
        rw[Option.map_eq_some_iff]at h
        obtain⟨rest,hr,rfl⟩:=h
        have sub:∀y∈elems++rest,∀p∈y.2,sp p.block=true:=fun y hy p hp=>hsp p (by
          refine List.mem_append_right _ (List.mem_flatMap.2 ⟨y,hy,hp⟩))
        have imp:∀(i:Nat) (y:DataW H×List MemPlace),y∈elems++rest→((W.cells? 0 (a.add (i*P.cellsOf e)) (P.cellsOf e)).bind (DataW.trod enc P W 0 (fun _=>true) true m e))=some y→
            ((W'.cells? 0 (a.add (i*P.cellsOf e)) (P.cellsOf e)).bind (DataW.trod enc P W' 0 sp true m e))=some y:=by
          intro i y hy h
          rw[Option.bind_eq_some_iff]at h ⊢
          obtain⟨cs',h1,h2⟩:=h
          exact⟨cs',CA hk h1,ih e m cs' y hp3 h2 sp (sub y hy)⟩
        refine⟨elems,mY (fun i _ y hy=>imp i y (by simp[hy])) he,?_⟩
        rw[Option.map_eq_some_iff]
        refine⟨rest,?_,rfl⟩
        have hr':(List.range (cap-len)).mapM (fun j=>(W'.cells? 0 (a.add ((len+j)*P.cellsOf e)) (P.cellsOf e)).bind (DataW.trod enc P W' 0 sp true m e))=some rest:=
          mY (fun i _ y hy=>imp (len+i) y (by simp[hy])) hr
        cases hs:sp a.block with
        | true=>simpa using hr'
        | false=>
          have hz:rest=[]:=by
            cases rest with
            | nil=>rfl
            | cons y r=>
              have hpos:0<(elems.length+(y::r).length)*P.cellsOf e:=Nat.mul_pos (by simp only[List.length_cons];omega) hp2
              have:=hsp (.cell a.block (a.off+0)) (by
                simp only[List.mem_append]
                refine .inl ?_
                simp only[MemPlace.row,List.mem_map,List.mem_range]
                exact⟨0,hpos,rfl⟩)
              simp[MemPlace.block,hs]at this
          subst hz
          simp
    · rename_i fs hu
      simp only[Bool.and_eq_true]at hp
      obtain⟨hc,ha⟩:=hp
      obtain⟨xs0,m',hm',_,hl,_,_⟩:=DataW.trod_struct hu h
      unfold DataW.trod at h ⊢
      rw[hu]at h ⊢
      simp only[hl,if_true]at h ⊢
      rw[Option.map_eq_some_iff]at h ⊢
      obtain⟨xs,hx,rfl⟩:=h
      refine⟨xs,mY (fun f hf y hy e=>ih f.type m _ y (List.all_eq_true.1 ha f hf) e sp fun p hp=>hsp p ?_) hx,rfl⟩
      simp only[List.mem_flatMap]
      exact⟨y,hy,hp⟩
    · cases hp
def gr.av:gr→AV
  | .b x=>.bool x
  | .i k n=>.int k n
  | .s x=>.str x
  | .sl h sz xs=>AM.sl h sz (gr.pj xs)
  | .st fs=>.agg (gr.ua fs)
theorem Fp{n:Nat}{t:TypeId}{v:Value}{r:Reach}{base:Nat}{x:DataW H}{ps:List MemPlace}(hp:gv P n t=true)(hv:Value.okWide P W r base t v)(h:DataW.Trod enc P W 0 (fun _=>true) true t v x ps):
    ∃d,gr.ok P n t d∧RV (gD W) [] d.av v:=by
  obtain⟨fuel,h⟩:=h
  obtain⟨d,h1,h2,h3⟩:=Ea n t fuel _ _ hp h
  refine⟨d,h1,?_⟩
  cases n with
  | zero=>simp[gv]at hp
  | succ n=>
  have one:∀(y:AV),d.cells=[y]→(∀cs,v≠.agg cs)→RV (gD W) [] y v:=by
    intro y hy hn
    have hc:v.cells.toList=[v]:=by
      cases v<;>first|rfl|exact absurd rfl (hn _)
    rw[hy,hc]at h2
    simpa using h2.2 0 y rfl
  unfold Value.okWide at hv
  simp only[gr.ok]at h1
  simp only[gv]at hp
  split at hp
  · rename_i hu
    rw[hu]at h1 hv
    cases d<;>simp at h1
    exact one _ rfl (fun cs e=>by subst e;simp[Cell.okWide,Cell.ok,hu]at hv)
  · rename_i k hu
    rw[hu]at h1 hv
    cases d<;>simp at h1
    exact one _ rfl (fun cs e=>by subst e;simp[Cell.okWide,Cell.ok,hu]at hv)
  · rename_i hu
    rw[hu]at h1 hv
    cases d<;>simp at h1
    exact one _ rfl (fun cs e=>by subst e;simp[Cell.okWide,Cell.ok,hu]at hv)
  · rename_i e hu
    rw[hu]at h1 hv
    cases d<;>simp at h1
    exact one _ rfl (fun cs e=>by subst e;simp[Cell.okWide,Cell.ok,hu]at hv)
  · rename_i fs hu
    rw[hu]at h1 hv
    cases d<;>simp at h1
    obtain⟨cs,rfl,_⟩:=hv
    simp only[gr.cells,Value.cells]at h2
    exact .agg _ _ _ (by simpa using h2.1) (fun i x hx=>by have:=h2.2 i x hx;rwa[cT]at this)
  · cases hp
def ie(P:Program)(n:Nat):List TypeId→List gr→Prop
  | [],[]=>True
  | t::ts,d::ds=>gr.ok P n t d∧ie P n ts ds
  | _,_=>False
theorem wZ{n:Nat}{r:Reach}{base:Nat}:∀{ts:List TypeId} {vs:List Value} {xs:List (DataW H)} {ps:List MemPlace},(∀t∈ts,gv P n t=true)→(∀(j:Nat) t v,ts[j]? = some t→vs[j]? = some v→Value.okWide P W r base t v)→
    DataW.TrodAll enc P W 0 (fun _=>true) true ts vs xs ps→∃ds,ie P n ts ds∧gy (gD W) [] (ds.map gr.av) vs∧xs.length=ts.length∧
      ∀{W':World},(∀c,c<W.heap.size→W'.heap[c]? = W.heap[c]?)→∀sp:Nat→Bool,(∀p∈ps,sp p.block=true)→DataW.TrodAll enc P W' 0 sp true ts vs xs ps
  | [],vs,xs,ps,hp,hv,h=>by
    obtain⟨rfl,rfl,rfl⟩:=trodAll_nil h
    exact⟨[],trivial,⟨rfl,fun i x hx=>by simp at hx⟩,rfl,fun _ _ _=>rfl⟩
  | t::ts,vs,xs,ps,hp,hv,h=>by
    obtain⟨v,vs',x,xs',p,q,rfl,rfl,rfl,h1,h2⟩:=trodAll_cons h
    obtain⟨d,d1,d2⟩:=Fp (hp t (by simp)) (hv 0 t v rfl rfl) h1
    obtain⟨ds,e1,e2,e3,e4⟩:=wZ (fun t ht=>hp t (by simp[ht])) (fun j t v a b=>hv (j+1) t v (by simpa using a) (by simpa using b)) h2
    refine⟨d::ds,⟨d1,e1⟩,(oG d2).append e2,by simp[e3],fun hk sp hsp=>?_⟩
    obtain⟨fuel,hf⟩:=h1
    exact⟨p,q,⟨fuel,Bb hk n t fuel _ _ (hp t (by simp)) hf sp fun y hy=>hsp y (by simp[hy])⟩,e4 hk sp (fun y hy=>hsp y (by simp[hy])),rfl⟩
theorem Cr{n:Nat}{f:FuncId}{fn:Func}{s:ChangeSpec}{apart fresh handsOn again:Bool}{args:Array Value}{ds gs:List (DataW H)}{before:List MemPlace}{tb:TypeId}{base:Nat}
    (hp:∀t∈fn.params.toList,gv P n t=true) (hvars:s.vars=[]) (hres:fn.resultTypes=#[tb]) (htb:P.underlying tb=some .bool)
    (hspec:∀xs:List (DataW H),xs.length=fn.params.toList.length→s.fn H xs={ results:=[.lit (.bool true)],args:=xs })
    (t:∀dats:List gr,ie P n fn.params.toList dats→T P Γ f (dats.map gr.av) [] fun v _=>v=.bool true)
    (hval:∀(j:Nat) t v,fn.params[j]? = some t→args[j]? = some v→Value.okWide P W .any base t v)
    (hW:DataW.Whole enc P fn.params.toList s.vars apart W args.toList ds gs before) (hΓ:KE Γ (gD W)):
    Calls P f args W fun e W'=>∃v,e=.returned v∧s.post enc P fn apart fresh handsOn again W args v W':=by
  have hW':=hW
  obtain⟨p,q,hA,hV,rfl,hz,hn⟩:=hW
  rw[hvars]at hV
  obtain⟨rfl,rfl⟩:=trodVars_none hV
  obtain⟨dats,o1,o2,o3,o4⟩:=wZ hp (fun j t v a b=>hval j t v (by simpa using a) (by simpa using b)) hA
  have hlen:args.toList.toArray=args:=by simp
  have ht:=(t dats o1).2 (gD W) W args.toList (K8 W) hΓ o2
  rw[hlen]at ht
  refine ht.mono ?_
  rintro e W2 ⟨v,cv,ρ',h',rfl,rv,rh,ev,rfl⟩
  cases rv
  have hk:∀c,c<W.heap.size→W2.heap[c]? = W.heap[c]?:=fun c hc=>ev.fr c hc (by
    rintro(⟨i,h⟩|⟨b,g,cs,o,n,h,_⟩)
    · simp at h
    · simp at h)
  have kept:W.keptBut W2 fun _=>False:=by
    refine⟨ev.os,ev.out,fun i hi=>?_⟩
    rw[hk i hi]
    split
    · rename_i h1 h2
      rw[h1]at h2
      injection h2 with h2
      injection h2 with h2 h3 h4
      subst h2;subst h3;subst h4
      exact⟨rfl,rfl,rfl,fun _ _=>rfl⟩
    · rename_i h1 h2
      rw[h1]at h2
      injection h2 with h2
      injection h2 with h2 h3
      exact .inr ⟨h2.symm,h3.symm⟩
    · rfl
  have hfz:∀a:Addr,a.block<W.heap.size→W2.frozen? a=W.frozen? a:=fun a ha=>by
    unfold World.frozen?;rw[hk _ ha]
  have hsp:=hspec (ds++[]) (by simpa using o3)
  refine⟨.bool true,rfl,?_⟩
  have hold:∀x∈p++[],(fun b=>decide (b<W.heap.size)) x.block=true:=fun x hx=>by simpa using hW'.lt x hx
  have hp1:p++[]=p:=by simp
  have hr:∀(b:Nat) (sp:Nat→Bool) (hd:Bool),DataW.TrodAll enc P W2 b sp hd fn.resultTypes.toList ((Value.bool true).resultList fn.resultTypes.size) (s.fn H (ds++[])).results []:=by
    intro b sp hd
    rw[hsp,hres]
    exact trodAll_mk1 (⟨1,by simp[DataW.trod,htb,Value.cells]⟩:DataW.Trod enc P W2 b sp hd tb (.bool true) (.lit (.bool true)) [])
  have ha:∀sp:Nat→Bool,(∀x∈p,sp x.block=true)→DataW.TrodAll enc P W2 0 sp true fn.params.toList args.toList (s.fn H (ds++[])).args p:=by
    intro sp h
    rw[hsp]
    simp only[List.append_nil]
    exact o4 hk sp h
  have hv:∀sp:Nat→Bool,DataW.TrodVars enc P W2 sp s.vars (s.fn H (ds++[])).vars []:=by
    intro sp
    rw[hsp,hvars]
    exact rfl
  refine⟨ds,[],p++[],[],p,[],hW',hr _ _ _,ha _ (fun x hx=>hold x (by simpa using hx)),hv _,World.keptBut_mono (fun x hx=>hx.elim) kept,fun _=>?_⟩
  refine⟨?_,_,_,([]++p)++[],⟨[]++p,[],trodAll_append (ha _ (fun _ _=>rfl)) (hr _ _ _),hv _,rfl,?_,?_⟩,?_⟩
  · intro j ty r h1 h2
    rw[hres]at h1 h2
    cases j with
    | zero=>
      simp at h1
      subst h1
      simp[Value.resultList]at h2
      subst h2
      simp[Value.okWide,htb,Cell.okWide,Cell.ok]
    | succ j=>simp at h1
  · intro b off hb
    have hb':MemPlace.cell b off∈p++[]:=by simpa using hb
    rw[hfz _ (by simpa[MemPlace.block]using hW'.lt _ hb')]
    exact hz b off hb'
  · intro ha'
    have:=hn ha'
    simpa using this
  · intro x hx _
    simpa using hx
theorem EU{n:Nat}{f:FuncId}{fn:Func}{s:ChangeSpec}{apart fresh handsOn again:Bool}{args:Array Value}{ds gs:List (DataW H)}{before:List MemPlace}{tb:TypeId}{base:Nat}
    (hp:∀t∈fn.params.toList,gv P n t=true) (hvars:s.vars=[]) (hres:fn.resultTypes=#[tb]) (htb:P.underlying tb=some .bool)
    (hspec:∀xs:List (DataW H),xs.length=fn.params.toList.length→s.fn H xs={ results:=[.lit (.bool true)],args:=xs })
    (t:∀dats:List gr,ie P n fn.params.toList dats→T P (fun _=>none) f (dats.map gr.av) [] fun v _=>v=.bool true)
    (hval:∀(j:Nat) t v,fn.params[j]? = some t→args[j]? = some v→Value.okWide P W .any base t v)
    (hW:DataW.Whole enc P fn.params.toList s.vars apart W args.toList ds gs before):
    Calls P f args W fun e W'=>∃v,e=.returned v∧s.post enc P fn apart fresh handsOn again W args v W':=
  Cr hp hvars hres htb hspec t hval hW (fun g cs h=>by cases h)
theorem ie.one{n:Nat}{t0:TypeId}{ds:List gr}(h:ie P n [t0] ds):∃d0,ds=[d0]∧gr.ok P n t0 d0:=
  match ds,h with|[d0],h=>⟨d0,rfl,h.1⟩
theorem ie.cons{n:Nat}{t0:TypeId}{ts:List TypeId}{ds:List gr}(h:ie P n (t0::ts) ds):∃d0 ds',ds=d0::ds'∧gr.ok P n t0 d0∧ie P n ts ds':=
  match ds,h with|d0::ds',h=>⟨d0,ds',rfl,h.1,h.2⟩
theorem ie.nil{n:Nat}{ds:List gr}(h:ie P n [] ds):ds=[]:=match ds,h with|[],_=>rfl
theorem Gf{n:Nat}{t:TypeId}{k:IntKind}(h1:P.underlying t=some (.int k)){d:gr}(h:gr.ok P (n+1) t d):∃m:Int,d=.i k m∧(Lit.int k m).wf=true:=by
  simp only[gr.ok,h1]at h
  cases d<;>simp only at h
  obtain⟨rfl,h⟩:=h
  exact⟨_,rfl,h⟩
theorem KG{n:Nat}{t e:TypeId}(h1:P.underlying t=some (.slice e)){d:gr}(h:gr.ok P (n+1) t d):∃xs,d=.sl (.v false false) (P.cellsOf e) xs∧xs.length≤maxLen∧∀x∈xs,gr.ok P n e x:=by
  simp only[gr.ok,h1]at h
  cases d<;>simp only at h
  obtain⟨rfl,rfl,h⟩:=h
  exact⟨_,rfl,h⟩
theorem v7{α:Type}{n:Nat}{e:TypeId}(cells:α→List AV)(Q:α→Prop)(each:∀d:gr,gr.ok P n e d→∃a:α,d.cells=cells a∧Q a):∀{l:List gr},(∀x∈l,gr.ok P n e x)→∃zs:List α,l.length=zs.length∧gr.pj l=zs.map cells∧∀z∈zs,Q z
  | [],_=>⟨[],rfl,rfl,by simp⟩
  | x::l,h=>by
    obtain⟨zs,e1,e2,e3⟩:=v7 cells Q each (l:=l) (fun y hy=>h y (by simp[hy]))
    obtain⟨a,ha,hq⟩:=each x (h x (by simp))
    exact⟨a::zs,by simp[e1],by simp[gr.pj,ha,e2],by intro z hz;rcases List.mem_cons.1 hz with rfl|hz;exact hq;exact e3 z hz⟩
end
end Go.AM
namespace Go.AM
end Go.AM
namespace Go.AM
section
variable {P:Program} {Θ:lF} {Γ:bY}
theorem JS(z:List AV):sub z 0 0=some []:=by simp[sub]
theorem GH(a:AV)(z:List AV)(n:Nat):sub (a::z) 0 (n+1)=(sub z 0 n).map (a :: ·):=by
  simp only[sub,Nat.zero_add,List.length_cons,List.drop_zero]
  by_cases h:n≤z.length
  · rw[if_pos (by omega),if_pos h];rfl
  · rw[if_neg (by omega),if_neg h];rfl
theorem Hk(a:AV)(z:List AV)(o n:Nat):sub (a::z) (o+1) n=sub z o n:=by
  simp only[sub,List.length_cons,List.drop_succ_cons]
  by_cases h:o+n≤z.length
  · rw[if_pos (by omega),if_pos h]
  · rw[if_neg (by omega),if_neg h]
def lv:List AV→Nat→List AV→Option (List AV)
  | z,0,[]=>some z
  | _::z,0,x::vs=>if bU x=true then (lv z 0 vs).map (x :: ·)else none
  | a::z,n+1,vs=>(lv z n vs).map (a :: ·)
  | [],0,_::_=>none
  | [],_+1,_=>none
theorem tO:∀(z:List AV) (o:Nat) (vs z':List AV),lv z o vs=some z'→o+vs.length≤z.length∧vs.all bU=true∧z'=cD z o vs
  | z,0,[],z',h=>by simp[lv]at h;subst h;simp[cD]
  | a::z,0,x::vs,z',h=>by
    simp only[lv]at h
    split at h
    · rename_i hx
      rw[Option.map_eq_some_iff]at h
      obtain⟨y,h1,rfl⟩:=h
      obtain⟨h2,h3,rfl⟩:=tO z 0 vs y h1
      refine⟨by simp at h2 ⊢;omega,by simp[hx,h3],?_⟩
      simp[cD]
    · cases h
  | a::z,n+1,vs,z',h=>by
    simp only[lv,Option.map_eq_some_iff]at h
    obtain⟨y,h1,rfl⟩:=h
    obtain⟨h2,h3,rfl⟩:=tO z n vs y h1
    refine⟨by simp;omega,h3,?_⟩
    simp[cD,show n+1+vs.length=(n+vs.length)+1 by omega]
  | [],0,_::_,_,h=>by simp[lv]at h
  | [],_+1,_,_,h=>by simp[lv]at h
theorem JQ(z:List AV):lv z 0 []=some z:=by cases z<;>rfl
theorem Iy(a x:AV)(z vs:List AV):lv (a::z) 0 (x::vs)=if bU x=true then (lv z 0 vs).map (x :: ·)else none:=rfl
theorem I5(a:AV)(z vs:List AV)(n:Nat):lv (a::z) (n+1) vs=(lv z n vs).map (a :: ·):=rfl
theorem cL{e:List AV}{L zs:List (List AV)}{h:AH}{i off:Nat}{z vs z':List AV}(hi:zs[i]? = some z)(hs:lv z off vs=some z'):(St.mk e (L++zs) h).store (.lp (L.length+i) off) vs=some ⟨e,L++zs.set i z',h⟩:=by
  obtain⟨h1,h2,rfl⟩:=tO z off vs z' hs
  have hl:(L++zs)[L.length+i]? = some z:=by rw[List.getElem?_append_right (by omega)];simpa using hi
  simp only[St.store,hl,Option.bind_some,if_pos h1,h2,if_true]
  rw[List.set_append_right _ _ (by omega)]
  simp
theorem cM{e:List AV}{L zs:List (List AV)}{h:AH}{i off n:Nat}{z:List AV}(hi:zs[i]? = some z):(St.mk e (L++zs) h).cells (.lp (L.length+i) off) n=sub z off n:=by
  have hl:(L++zs)[L.length+i]? = some z:=by rw[List.getElem?_append_right (by omega)];simpa using hi
  simp only[St.cells,hl,Option.bind_some]
theorem Ta(e:List AV)(L zs:List (List AV))(z:List AV)(h:AH)(off n:Nat):(St.mk e (L++z::zs) h).cells (.lp L.length off) n=sub z off n:=cM (i:=0) rfl
theorem Sc(e:List AV)(L zs:List (List AV))(a z:List AV)(h:AH)(off n:Nat):(St.mk e (L++a::z::zs) h).cells (.lp (L.length+1) off) n=sub z off n:=cM (i:=1) rfl
theorem Um(e:List AV)(L zs:List (List AV))(a b z:List AV)(h:AH)(off n:Nat):(St.mk e (L++a::b::z::zs) h).cells (.lp (L.length+2) off) n=sub z off n:=cM (i:=2) rfl
theorem T5(e:List AV)(L zs:List (List AV))(a b c z:List AV)(h:AH)(off n:Nat):(St.mk e (L++a::b::c::z::zs) h).cells (.lp (L.length+3) off) n=sub z off n:=cM (i:=3) rfl
def jr(f:List AV→St)(alt:Option St):Option (List AV)→Option St|some z=>some (f z)|none=>alt
def gF(s:St)(a:AV)(vs:List AV):Option St:=s.store a vs
theorem Ds(f:List AV→St)(alt:Option St)(z:List AV):jr f alt (some z)=some (f z):=rfl
theorem dN{s:St}{a:AV}{vs:List AV}{o:Option (List AV)}{f:List AV→St}(h:∀z,o=some z→s.store a vs=some (f z)):s.store a vs=jr f (gF s a vs) o:=by
  cases o with
  | none=>rfl
  | some z=>exact h z rfl
theorem S6(e:List AV)(L zs:List (List AV))(z:List AV)(h:AH)(off:Nat)(vs:List AV):(St.mk e (L++z::zs) h).store (.lp L.length off) vs=jr (fun z'=>⟨e,L++z'::zs,h⟩) (gF ⟨e,L++z::zs,h⟩ (.lp L.length off) vs) (lv z off vs):=
  dN fun _ hs=>cL (i:=0) rfl hs
theorem Sf(e:List AV)(L zs:List (List AV))(a z:List AV)(h:AH)(off:Nat)(vs:List AV):(St.mk e (L++a::z::zs) h).store (.lp (L.length+1) off) vs=jr (fun z'=>⟨e,L++a::z'::zs,h⟩) (gF ⟨e,L++a::z::zs,h⟩ (.lp (L.length+1) off) vs) (lv z off vs):=
  dN fun _ hs=>cL (i:=1) rfl hs
theorem Tj(e:List AV)(L zs:List (List AV))(a b z:List AV)(h:AH)(off:Nat)(vs:List AV):(St.mk e (L++a::b::z::zs) h).store (.lp (L.length+2) off) vs=jr (fun z'=>⟨e,L++a::b::z'::zs,h⟩) (gF ⟨e,L++a::b::z::zs,h⟩ (.lp (L.length+2) off) vs) (lv z off vs):=
  dN fun _ hs=>cL (i:=2) rfl hs
theorem Ui(e:List AV)(L zs:List (List AV))(a b c z:List AV)(h:AH)(off:Nat)(vs:List AV):(St.mk e (L++a::b::c::z::zs) h).store (.lp (L.length+3) off) vs=jr (fun z'=>⟨e,L++a::b::c::z'::zs,h⟩) (gF ⟨e,L++a::b::c::z::zs,h⟩ (.lp (L.length+3) off) vs) (lv z off vs):=
  dN fun _ hs=>cL (i:=3) rfl hs
theorem SY(L:List (List AV))(a:List AV):(L++[a]).length=L.length+1:=by simp
theorem Us(L:List (List AV))(a b:List AV):(L++[a,b]).length=L.length+2:=by simp
theorem TZ(L:List (List AV))(a b c:List AV):(L++[a,b,c]).length=L.length+3:=by simp
theorem Th(L:List (List AV))(a z:List AV):(L++[a])++[z]=L++[a,z]:=by simp
theorem Ur(L:List (List AV))(a b z:List AV):(L++[a,b])++[z]=L++[a,b,z]:=by simp
theorem Tw(L:List (List AV))(a b c z:List AV):(L++[a,b,c])++[z]=L++[a,b,c,z]:=by simp
theorem Gk(k:IntKind)(n:Int):bU (.int k n)=true:=rfl
theorem PE(b:Bool):bU (.bool b)=true:=rfl
theorem Q0(b:ByteArray):bU (.str b)=true:=rfl
theorem JY(s:SH)(sz:Nat)(xs:List (List AV)):bU (sl s sz xs)=true:=by cases s<;>rfl
theorem JC(b g off len cap sz:Nat)(ex:Bool):bU (.gs b g off len cap sz ex)=true:=rfl
theorem qh{α β:Type}(f:α→β)(x:α):Option.map f (some x)=some (f x):=rfl
theorem Ru{α β:Type}(f:α→Option β)(x:α):Option.bind (some x) f=f x:=rfl
theorem NA(s:St)(n:Nat)(a:AV)(cs:List AV):lO s n a (some cs)=if cs.length=n then .CN (s.store a cs)else .stuck:=rfl
theorem MQ:List.length ([]:List AV)=0:=rfl
theorem Qs(x:AV)(xs:List AV):(x::xs).length=xs.length+1:=rfl
theorem O9(l:List AV):l.drop 0=l:=rfl
theorem O3(a:AV)(l:List AV)(n:Nat):(a::l).drop (n+1)=l.drop n:=rfl
theorem OY(n:Nat):0+n=n:=Nat.zero_add n
def Az(v:AV):Option Nat:=(KL v).bind fun i=>if 0≤i then some i.toNat else none
def It(k:SK)(s:St)(v hi:AV):AR:=match Az hi with|some h=>.iI s (qS k v 0 (some h) none)|none=>.stuck
def BX(k:SK)(s:St)(v lo:AV):AR:=match Az lo with|some l=>.iI s (qS k v l none none)|none=>.stuck
def BZ(k:SK)(s:St)(v lo hi:AV):AR:=match Az lo,Az hi with|some l,some h=>.iI s (qS k v l (some h) none)|_,_=>.stuck
theorem BO(gl:Bool)(s:St)(k:SK)(x y:X):step Γ gl s (.slice k x none (some y) none)=It k s (s.eval Γ x) (s.eval Γ y):=by
  simp only[step,It,ss,Az]
  cases(KL (s.eval Γ y)).bind fun i=>if 0≤i then some i.toNat else none<;>rfl
theorem wU(gl:Bool)(s:St)(k:SK)(x y:X):step Γ gl s (.slice k x (some y) none none)=BX k s (s.eval Γ x) (s.eval Γ y):=by
  simp only[step,BX,ss,Az]
  cases(KL (s.eval Γ y)).bind fun i=>if 0≤i then some i.toNat else none<;>rfl
theorem wG(gl:Bool)(s:St)(k:SK)(x y z:X):step Γ gl s (.slice k x (some y) (some z) none)=BZ k s (s.eval Γ x) (s.eval Γ y) (s.eval Γ z):=by
  simp only[step,BZ,ss,Az]
  cases(KL (s.eval Γ y)).bind fun i=>if 0≤i then some i.toNat else none<;>cases(KL (s.eval Γ z)).bind fun i=>if 0≤i then some i.toNat else none<;>rfl
def SH.cut(s:SH)(b:Bool):SH:=match s with|.nil=>.nil|.v β ex=>.v β (ex && b)
theorem bp{e:List AV}{l:List (List AV)}{H:AH}{b off n g:Nat}{cs:List AV}(h:b7 H b=some (g,cs)):(St.mk e l H).cells (.gp b g off) n=sub cs off n:=by
  simp only[St.cells,h,Option.bind_some,if_true]
end
theorem EB:type_of% (And.intro @JS (And.intro @GH (And.intro @Hk (And.intro @JQ (And.intro @Iy (And.intro @I5 (And.intro @Ta (And.intro @Sc (And.intro @Um (And.intro @T5 (And.intro @S6 (And.intro @Sf (And.intro @Tj (And.intro @Ui (And.intro @Ds (And.intro @SY (And.intro @Us (And.intro @TZ (And.intro @Th (And.intro @Ur (And.intro @Tw (And.intro @Gk (And.intro @PE (And.intro @Q0 (And.intro @JY (And.intro @JC (And.intro @qh (And.intro @BO (And.intro @wU (And.intro @wG (And.intro @O9 (And.intro @O3 (And.intro @Ru (And.intro @NA (And.intro @MQ (And.intro @Qs (@OY))))))))))))))))))))))))))))))))))))):=And.intro @JS (And.intro @GH (And.intro @Hk (And.intro @JQ (And.intro @Iy (And.intro @I5 (And.intro @Ta (And.intro @Sc (And.intro @Um (And.intro @T5 (And.intro @S6 (And.intro @Sf (And.intro @Tj (And.intro @Ui (And.intro @Ds (And.intro @SY (And.intro @Us (And.intro @TZ (And.intro @Th (And.intro @Ur (And.intro @Tw (And.intro @Gk (And.intro @PE (And.intro @Q0 (And.intro @JY (And.intro @JC (And.intro @qh (And.intro @BO (And.intro @wU (And.intro @wG (And.intro @O9 (And.intro @O3 (And.intro @Ru (And.intro @NA (And.intro @MQ (And.intro @Qs (@OY))))))))))))))))))))))))))))))))))))
end Go.AM
namespace Go.AM
section
variable {P:Program} {Θ:lF} {Γ:bY}
abbrev KJ(P:Program)(Θ:lF)(Γ:bY)(f:FuncId)(c:C)(rs:List RS)(us:List AV):Prop:=
  ∀{a0:AV} {h:AH} {K:AV→AH→Prop},TC P Θ Γ c (bk rs K) ⟨a0::us,[],h⟩→T P Γ f [a0] h K
end
end Go.AM
namespace Go.AM
inductive CD where
  | i (k:IntKind) (n:Int)|b (x:Bool)|s (x:ByteArray)|sl (sz:Nat) (xs:List (List CD))
  deriving Inhabited
mutual
def CD.av(β:Bool):CD→AV
  | .i k n=>.int k n
  | .b x=>.bool x
  | .s x=>.str x
  | .sl sz xs=>.vs β sz false (CD.FO β xs)
def CD.RM(β:Bool):List CD→List AV
  | []=>[]
  | d::r=>d.av β::CD.RM β r
def CD.FO(β:Bool):List (List CD)→List (List AV)
  | []=>[]
  | d::r=>CD.RM β d::CD.FO β r
end
theorem CD.CW(β:Bool):∀(l:List CD),CD.RM β l=l.map (CD.av β)
  | []=>rfl
  | d::r=>by simp[CD.RM,CD.CW β r]
theorem CD.BP(β:Bool):∀(l:List (List CD)),CD.FO β l=l.map fun x=>x.map (CD.av β)
  | []=>rfl
  | d::r=>by simp[CD.FO,CD.CW,CD.BP β r]
theorem CD.gI(β:Bool)(k:IntKind)(n:Int):(CD.i k n).av β=.int k n:=by simp[CD.av]
theorem CD.lM(β x:Bool):(CD.b x).av β=.bool x:=by simp[CD.av]
theorem CD.lB(β:Bool)(x:ByteArray):(CD.s x).av β=.str x:=by simp[CD.av]
theorem CD.iO(β:Bool)(sz:Nat)(xs:List (List CD)):(CD.sl sz xs).av β=.vs β sz false (xs.map fun x=>x.map (CD.av β)):=by simp[CD.av,CD.BP]
theorem CD.bj(β:Bool)(d:CD):Go.AM.bj (d.av β)=true:=by cases d<;>simp[CD.av,Go.AM.bj]
theorem CD.bU(β:Bool)(d:CD):Go.AM.bU (d.av β)=true:=iB (d.bj β)
inductive atom:AV→Prop
  | i (k:IntKind) (n:Int):atom (.int k n)
  | b (x:Bool):atom (.bool x)
  | s (x:ByteArray):atom (.str x)
  | ns:atom .nils
  | np:atom .nilp
inductive b6 (h:AH):AV→CD→List Nat→Prop
  | i (k:IntKind) (n:Int):b6 h (.int k n) (.i k n) []
  | b (x:Bool):b6 h (.bool x) (.b x) []
  | s (x:ByteArray):b6 h (.str x) (.s x) []
  | nil (sz:Nat):b6 h .nils (.sl sz []) []
  | gs (b g len cap sz:Nat) (ex:Bool) (as tail:List AV) (xs:List (List CD)) (fps:List (List Nat))
      (h1:b7 h b=some (g,as++tail)) (h2:xs.length=len) (h3:∀l∈xs,l.length=sz) (h4:as.length=xs.flatten.length) (ht:∀x∈tail,atom x) (hc:len≤cap∧(cap-len)*sz≤tail.length)
      (hf:fps.length=as.length) (r:∀(i:Nat) (a:AV) (d:CD) (fp:List Nat),as[i]? = some a→xs.flatten[i]? = some d→fps[i]? = some fp→b6 h a d fp):
      b6 h (.gs b g 0 len cap sz ex) (.sl sz xs) (b::fps.flatten)
def aG(h:AH):List AV→List CD→List Nat→Prop
  | [],[],fp=>fp=[]
  | a::as,d::ds,fp=>∃f1 f2,fp=f1++f2∧b6 h a d f1∧aG h as ds f2
  | _,_,_=>False
theorem aG.len{h:AH}:∀{as:List AV} {ds:List CD} {fp:List Nat},aG h as ds fp→as.length=ds.length
  | [],[],_,_=>rfl
  | a::as,d::ds,fp,hh=>by obtain⟨_,_,_,_,h2⟩:=hh;simp[aG.len h2]
  | [],_::_,_,hh=>hh.elim
  | _::_,[],_,hh=>hh.elim
theorem aG.of{h:AH}:∀{as:List AV} {ds:List CD} {fps:List (List Nat)},as.length=ds.length→fps.length=as.length→
    (∀(i:Nat) (a:AV) (d:CD) (fp:List Nat),as[i]? = some a→ds[i]? = some d→fps[i]? = some fp→b6 h a d fp)→aG h as ds fps.flatten
  | [],[],[],_,_,_=>rfl
  | a::as,d::ds,f::fps,h1,h2,r=>⟨f,fps.flatten,rfl,r 0 a d f rfl rfl rfl,aG.of (by simpa using h1) (by simpa using h2) (fun i a d fp e1 e2 e3=>r (i+1) a d fp (by simpa using e1) (by simpa using e2) (by simpa using e3))⟩
theorem aG.to{h:AH}:∀{as:List AV} {ds:List CD} {fp:List Nat},aG h as ds fp→∃fps:List (List Nat),fps.length=as.length∧fp=fps.flatten∧
    ∀(i:Nat) (a:AV) (d:CD) (fp:List Nat),as[i]? = some a→ds[i]? = some d→fps[i]? = some fp→b6 h a d fp
  | [],[],fp,hh=>⟨[],rfl,hh,fun i a d fp e1=>by simp at e1⟩
  | a::as,d::ds,fp,hh=>by
    obtain⟨f1,f2,rfl,h1,h2⟩:=hh
    obtain⟨fps,e1,rfl,e3⟩:=aG.to h2
    refine⟨f1::fps,by simp[e1],rfl,fun i a' d' fp' g1 g2 g3=>?_⟩
    cases i with
    | zero=>simp at g1 g2 g3;subst g1 g2 g3;exact h1
    | succ i=>exact e3 i a' d' fp' (by simpa using g1) (by simpa using g2) (by simpa using g3)
theorem b6.sl_mk{h:AH}{b g cap sz:Nat}{ex:Bool}{as tail:List AV}{xs:List (List CD)}{fp:List Nat}(h1:b7 h b=some (g,as++tail))(h3:∀l∈xs,l.length=sz)(ht:∀x∈tail,atom x)(hc:xs.length≤cap∧(cap-xs.length)*sz≤tail.length)
    (r:aG h as xs.flatten fp):b6 h (.gs b g 0 xs.length cap sz ex) (.sl sz xs) (b::fp):=by
  obtain⟨fps,e1,rfl,e3⟩:=r.to
  exact .gs b g _ cap sz ex as tail xs fps h1 rfl h3 r.len ht hc e1 e3
theorem b6.ly{h:AH}{a:AV}{sz:Nat}{xs:List (List CD)}{fp:List Nat}(o:b6 h a (.sl sz xs) fp):(a=.nils∧xs=[]∧fp=[])∨
    ∃b g cap ex as tail fp',a=.gs b g 0 xs.length cap sz ex∧fp=b::fp'∧b7 h b=some (g,as++tail)∧(∀l∈xs,l.length=sz)∧(∀x∈tail,atom x)∧(xs.length≤cap∧(cap-xs.length)*sz≤tail.length)∧aG h as xs.flatten fp':=by
  cases o with
  | nil=>exact .inl ⟨rfl,rfl,rfl⟩
  | gs b g len cap sz ex as tail xs fps h1 h2 h3 h4 ht hc hf r=>
    subst h2
    exact .inr ⟨b,g,cap,ex,as,tail,_,rfl,rfl,h1,h3,ht,hc,aG.of h4 hf r⟩
theorem gB{h:AH}{a:AV}{k:IntKind}{n:Int}{fp:List Nat}:b6 h a (.i k n) fp↔a=.int k n∧fp=[]:=
  ⟨fun o=>by cases o;exact⟨rfl,rfl⟩,fun⟨h1,h2⟩=>by subst h1 h2;exact .i _ _⟩
theorem iH{h:AH}{a:AV}{x:Bool}{fp:List Nat}:b6 h a (.b x) fp↔a=.bool x∧fp=[]:=
  ⟨fun o=>by cases o;exact⟨rfl,rfl⟩,fun⟨h1,h2⟩=>by subst h1 h2;exact .b _⟩
theorem iv{h:AH}{a:AV}{x:ByteArray}{fp:List Nat}:b6 h a (.s x) fp↔a=.str x∧fp=[]:=
  ⟨fun o=>by cases o;exact⟨rfl,rfl⟩,fun⟨h1,h2⟩=>by subst h1 h2;exact .s _⟩
theorem fN{h:AH}{as:List AV}{fp:List Nat}:aG h as [] fp↔as=[]∧fp=[]:=by
  cases as<;>simp[aG]
theorem fW{h:AH}{as:List AV}{d:CD}{ds:List CD}{fp:List Nat}:aG h as (d::ds) fp↔∃a as' f1 f2,as=a::as'∧fp=f1++f2∧b6 h a d f1∧aG h as' ds f2:=by
  cases as with
  | nil=>simp[aG]
  | cons a as=>
    constructor
    · rintro⟨f1,f2,h1,h2,h3⟩;exact⟨a,as,f1,f2,rfl,h1,h2,h3⟩
    · rintro⟨a',as',f1,f2,h1,h2,h3,h4⟩;injection h1 with e1 e2;subst e1 e2;exact⟨f1,f2,h2,h3,h4⟩
theorem aG.append{h:AH}:∀{as bs:List AV} {ds es:List CD} {f1 f2:List Nat},aG h as ds f1→aG h bs es f2→aG h (as++bs) (ds++es) (f1++f2)
  | [],bs,[],es,f1,f2,h1,h2=>by cases h1;exact h2
  | a::as,bs,d::ds,es,f1,f2,⟨g1,g2,e,o1,o2⟩,h2=>by subst e;exact⟨g1,g2++f2,by simp,o1,aG.append o2 h2⟩
theorem aG.split{h:AH}:∀{as:List AV} {ds es:List CD} {fp:List Nat},aG h as (ds++es) fp→∃a1 a2 f1 f2,as=a1++a2∧fp=f1++f2∧aG h a1 ds f1∧aG h a2 es f2
  | as,[],es,fp,o=>⟨[],as,[],fp,rfl,rfl,rfl,o⟩
  | a::as,d::ds,es,fp,⟨g1,g2,e,o1,o2⟩=>by
    subst e
    obtain⟨a1,a2,f1,f2,e1,e2,o3,o4⟩:=aG.split o2
    subst e1 e2
    exact⟨a::a1,a2,g1++f1,f2,rfl,by simp,⟨g1,f1,rfl,o1,o3⟩,o4⟩
  | [],d::ds,es,fp,o=>o.elim
theorem bt{h h':AH}{b:Nat}(e:h'[b]? = h[b]?):b7 h' b=b7 h b:=by simp[b7,e]
theorem b6.frame{h h':AH}{a:AV}{d:CD}{fp:List Nat}(o:b6 h a d fp):(∀b∈fp,h'[b]? = h[b]?)→b6 h' a d fp:=by
  induction o with
  | i=>exact fun _=>.i _ _
  | b=>exact fun _=>.b _
  | s=>exact fun _=>.s _
  | nil=>exact fun _=>.nil _
  | gs b g len cap sz ex as tail xs fps h1 h2 h3 h4 ht hc hf r ih=>
    intro hh
    refine .gs b g len cap sz ex as tail xs fps (by rw[bt (hh b (by simp))];exact h1) h2 h3 h4 ht hc hf (fun i a d fp e1 e2 e3=>ih i a d fp e1 e2 e3 fun c hc=>hh c ?_)
    exact List.mem_cons_of_mem _ (List.mem_flatten.2 ⟨fp,List.mem_of_getElem? e3,hc⟩)
theorem aG.frame{h h':AH}:∀{as:List AV} {ds:List CD} {fp:List Nat},aG h as ds fp→(∀b∈fp,h'[b]? = h[b]?)→aG h' as ds fp
  | [],[],_,o,_=>o
  | a::as,d::ds,fp,⟨f1,f2,e,o1,o2⟩,hh=>by
    subst e
    exact⟨f1,f2,rfl,o1.frame fun b hb=>hh b (by simp[hb]),aG.frame o2 fun b hb=>hh b (by simp[hb])⟩
theorem b6.lt{h:AH}{a:AV}{d:CD}{fp:List Nat}(o:b6 h a d fp):∀b∈fp,b<h.length:=by
  induction o with
  | gs b g len cap sz ex as tail xs fps h1 h2 h3 h4 ht hc hf r ih=>
    intro c hc
    rcases List.mem_cons.1 hc with rfl|hc
    · exact ay (cS h1)
    · obtain⟨fp,hfp,hc⟩:=List.mem_flatten.1 hc
      obtain⟨i,hi⟩:=List.mem_iff_getElem?.1 hfp
      have hlt:=ay hi
      exact ih i _ _ fp (List.getElem?_eq_getElem (by omega)) (List.getElem?_eq_getElem (by omega)) hi c hc
  | _=>intro b hb;simp at hb
theorem aG.lt{h:AH}:∀{as:List AV} {ds:List CD} {fp:List Nat},aG h as ds fp→∀b∈fp,b<h.length
  | [],[],_,o=>by cases o;intro b hb;simp at hb
  | a::as,d::ds,fp,⟨f1,f2,e,o1,o2⟩=>by
    subst e
    intro b hb
    rcases List.mem_append.1 hb with hb|hb
    · exact o1.lt b hb
    · exact aG.lt o2 b hb
theorem b6.grow{h new:AH}{a:AV}{d:CD}{fp:List Nat}(o:b6 h a d fp):b6 (h++new) a d fp:=
  o.frame fun b hb=>List.getElem?_append_left (o.lt b hb)
theorem aG.grow{h new:AH}{as:List AV}{ds:List CD}{fp:List Nat}(o:aG h as ds fp):aG (h++new) as ds fp:=
  o.frame fun b hb=>List.getElem?_append_left (o.lt b hb)
theorem b6.bj{h:AH}{a:AV}{d:CD}{fp:List Nat}(o:b6 h a d fp):Go.AM.bj a=true:=by cases o<;>rfl
theorem aG.bj{h:AH}:∀{as:List AV} {ds:List CD} {fp:List Nat},aG h as ds fp→as.all Go.AM.bj=true
  | [],[],_,_=>rfl
  | a::as,d::ds,fp,⟨f1,f2,e,o1,o2⟩=>by simp[o1.bj,aG.bj o2]
theorem b6.nb{h:AH}{base:Nat}{a:AV}{d:CD}{fp:List Nat}(o:b6 h a d fp)(hb:∀b∈fp,base≤b):NB base a:=by
  cases o with
  | i=>exact .int _ _
  | b=>exact .bool _
  | s=>exact .str _
  | nil=>exact .nils
  | gs=>exact .gs _ _ _ _ _ _ _ (hb _ (by simp))
theorem atom.nb{a:AV}(h:atom a)(base:Nat):NB base a:=by cases h<;>constructor
theorem aG.nb{h:AH}{base:Nat}:∀{as:List AV} {ds:List CD} {fp:List Nat},aG h as ds fp→(∀b∈fp,base≤b)→∀x∈as,NB base x
  | [],[],_,_,_=>fun x hx=>by simp at hx
  | a::as,d::ds,fp,⟨f1,f2,e,o1,o2⟩,hb=>by
    subst e
    intro x hx
    rcases List.mem_cons.1 hx with rfl|hx
    · exact o1.nb fun b h=>hb b (by simp[h])
    · exact aG.nb o2 (fun b h=>hb b (by simp[h])) x hx
theorem b6.Fy{h:AH}{base:Nat}{a:AV}{d:CD}{fp:List Nat}(o:b6 h a d fp):(∀b∈fp,base≤b)→∀b∈fp,∀g cs,h[b]? = some (some (g,cs))→∀x∈cs,NB base x:=by
  induction o with
  | gs b g len cap sz ex as tail xs fps h1 h2 h3 h4 ht hc hf r ih=>
    intro hb c hc g' cs hcs x hx
    rcases List.mem_cons.1 hc with rfl|hc
    · have:=cS h1
      rw[this]at hcs
      injection hcs with hcs
      injection hcs with hcs
      injection hcs with e1 e2
      subst e1 e2
      rcases List.mem_append.1 hx with hx|hx
      · exact(aG.of h4 hf r).nb (fun b h=>hb b (by simp[h])) x hx
      · exact(ht x hx).nb base
    · obtain⟨fp,hfp,hc⟩:=List.mem_flatten.1 hc
      obtain⟨i,hi⟩:=List.mem_iff_getElem?.1 hfp
      have hlt:=ay hi
      exact ih i _ _ fp (List.getElem?_eq_getElem (by omega)) (List.getElem?_eq_getElem (by omega)) hi (fun b h=>hb b (List.mem_cons_of_mem _ (List.mem_flatten.2 ⟨fp,hfp,h⟩))) c hc g' cs hcs x hx
  | _=>intro _ b hb;simp at hb
theorem Bl{α:Type}{sz:Nat}:∀{xs:List (List α)} {i j:Nat} {l:List α} {x:α},(∀l∈xs,l.length=sz)→xs[i]? = some l→l[j]? = some x→xs.flatten[i*sz+j]? = some x
  | l'::xs,0,j,l,x,_,h1,h2=>by
    simp at h1;subst h1
    rw[List.flatten_cons,Nat.zero_mul,Nat.zero_add,List.getElem?_append_left (ay h2)];exact h2
  | l'::xs,i+1,j,l,x,h,h1,h2=>by
    rw[List.flatten_cons,Nat.succ_mul,List.getElem?_append_right (by rw[h l' (by simp)];omega),h l' (by simp),show i*sz+sz+j-sz=i*sz+j by omega]
    exact Bl (fun l hl=>h l (by simp[hl])) (by simpa using h1) h2
theorem b6.view{h:AH}{a:AV}{d:CD}{fp:List Nat}(o:b6 h a d fp):iM h a (d.av true)∧∀base,(∀b∈fp,base≤b)→yo base h a (d.av false):=by
  induction o with
  | i=>rw[CD.gI,CD.gI];exact⟨.same _,fun _ _=>.same _ (.int _ _)⟩
  | b=>rw[CD.lM,CD.lM];exact⟨.same _,fun _ _=>.same _ (.bool _)⟩
  | s=>rw[CD.lB,CD.lB];exact⟨.same _,fun _ _=>.same _ (.str _)⟩
  | nil=>rw[CD.iO,CD.iO];exact⟨.nil _ _,fun _ _=>.nil _ _⟩
  | gs b g len cap sz ex as tail xs fps h1 h2 h3 h4 ht hc hf r ih=>
    subst h2
    rw[CD.iO,CD.iO]
    have look:∀(β:Bool) (i:Nat) (l:List AV),(xs.map fun x=>x.map (CD.av β))[i]? = some l→∃m,xs[i]? = some m∧l=m.map (CD.av β):=by
      intro β i l hl
      rw[List.getElem?_map,Option.map_eq_some_iff]at hl
      obtain⟨m,hm,rfl⟩:=hl
      exact⟨m,hm,rfl⟩
    have cell:∀(β:Bool) (i j:Nat) (l:List AV) (x:AV),(xs.map fun x=>x.map (CD.av β))[i]? = some l→l[j]? = some x→∃a d fp,as[i*sz+j]? = some a∧xs.flatten[i*sz+j]? = some d∧fps[i*sz+j]? = some fp∧x=d.av β:=by
      intro β i j l x hl hx
      obtain⟨m,hm,rfl⟩:=look β i l hl
      rw[List.getElem?_map,Option.map_eq_some_iff]at hx
      obtain⟨d,hd,rfl⟩:=hx
      have hd':=Bl h3 hm hd
      have hlt:=ay hd'
      exact⟨_,d,_,List.getElem?_eq_getElem (by omega),hd',List.getElem?_eq_getElem (by omega),rfl⟩
    refine⟨.gs b g 0 _ cap sz ex false (as++tail) _ (fun i j=>as.getD (i*sz+j) .any) (cS h1) (by simp) (by simp) ?_ ?_ ?_,fun base hb=>.gs b g 0 _ cap sz ex false (as++tail) _ (fun i j=>as.getD (i*sz+j) .any) (hb b (by simp)) (cS h1) (by simp) (by simp) ?_ ?_ ?_⟩
    · intro i l hl;obtain⟨m,hm,rfl⟩:=look _ i l hl;simpa using h3 m (List.mem_of_getElem? hm)
    · intro i l hl j x hx
      obtain⟨a,d,fp,e1,e2,e3,rfl⟩:=cell _ i j l x hl hx
      rw[Nat.zero_add,List.getElem?_append_left (ay e1),e1];simp[List.getD_eq_getElem?_getD,e1]
    · intro i l hl j x hx
      obtain⟨a,d,fp,e1,e2,e3,rfl⟩:=cell _ i j l x hl hx
      have:=(ih _ a d fp e1 e2 e3).1
      simpa[List.getD_eq_getElem?_getD,e1]using this
    · intro i l hl;obtain⟨m,hm,rfl⟩:=look _ i l hl;simpa using h3 m (List.mem_of_getElem? hm)
    · intro i l hl j x hx
      obtain⟨a,d,fp,e1,e2,e3,rfl⟩:=cell _ i j l x hl hx
      rw[Nat.zero_add,List.getElem?_append_left (ay e1),e1];simp[List.getD_eq_getElem?_getD,e1]
    · intro i l hl j x hx
      obtain⟨a,d,fp,e1,e2,e3,rfl⟩:=cell _ i j l x hl hx
      have:=(ih _ a d fp e1 e2 e3).2 base fun b h=>hb b (List.mem_cons_of_mem _ (List.mem_flatten.2 ⟨fp,List.mem_of_getElem? e3,h⟩))
      simpa[List.getD_eq_getElem?_getD,e1]using this
theorem aG.snap{h:AH}:∀{as:List AV} {ds:List CD} {fp:List Nat},aG h as ds fp→m0 h as (ds.map (CD.av true))
  | [],[],_,_=>trivial
  | a::as,d::ds,fp,⟨f1,f2,e,o1,o2⟩=>⟨o1.view.1,aG.snap o2⟩
theorem aG.IL{h:AH}{base:Nat}:∀{as:List AV} {ds:List CD} {fp:List Nat},aG h as ds fp→(∀b∈fp,base≤b)→∀(i:Nat) (y:AV),(ds.map (CD.av false))[i]? = some y→∃x,as[i]? = some x∧yo base h x y
  | [],[],_,_,_,i,y,hy=>by simp at hy
  | a::as,d::ds,fp,⟨f1,f2,e,o1,o2⟩,hb,i,y,hy=>by
    subst e
    cases i with
    | zero=>simp at hy;subst hy;exact⟨a,rfl,o1.view.2 base fun b h=>hb b (by simp[h])⟩
    | succ i=>exact aG.IL o2 (fun b h=>hb b (by simp[h])) i y (by simpa using hy)
inductive RD where|c (d:CD)|a (cs:List CD)
def RD.av(β:Bool):RD→AV|.c d=>d.av β|.a cs=>.agg (cs.map (CD.av β))
def uh(h:AH)(v:AV):RD→List Nat→Prop
  | .c d,fp=>b6 h v d fp
  | .a cs,fp=>∃as,v=.agg as∧aG h as cs fp
def gC(h:AH):List AV→List RD→List Nat→Prop
  | [],[],fp=>fp=[]
  | v::vs,r::rs,fp=>∃f1 f2,fp=f1++f2∧uh h v r f1∧gC h vs rs f2
  | _,_,_=>False
def kx:List AV→AV|[v]=>v|vs=>.tup vs
theorem uh.frame{h h':AH}{v:AV}{r:RD}{fp:List Nat}(o:uh h v r fp)(hh:∀b∈fp,h'[b]? = h[b]?):uh h' v r fp:=by
  cases r with
  | c d=>exact b6.frame o hh
  | a cs=>obtain⟨as,e,o⟩:=o;exact⟨as,e,o.frame hh⟩
theorem gC.frame{h h':AH}:∀{vs:List AV} {rs:List RD} {fp:List Nat},gC h vs rs fp→(∀b∈fp,h'[b]? = h[b]?)→gC h' vs rs fp
  | [],[],_,o,_=>o
  | a::as,d::ds,fp,⟨f1,f2,e,o1,o2⟩,hh=>by
    subst e
    exact⟨f1,f2,rfl,o1.frame fun b hb=>hh b (by simp[hb]),gC.frame o2 fun b hb=>hh b (by simp[hb])⟩
theorem uh.lt{h:AH}{v:AV}{r:RD}{fp:List Nat}(o:uh h v r fp):∀b∈fp,b<h.length:=by
  cases r with
  | c d=>exact b6.lt o
  | a cs=>obtain⟨as,e,o⟩:=o;exact o.lt
theorem gC.lt{h:AH}:∀{vs:List AV} {rs:List RD} {fp:List Nat},gC h vs rs fp→∀b∈fp,b<h.length
  | [],[],_,o=>by cases o;intro b hb;simp at hb
  | a::as,d::ds,fp,⟨f1,f2,e,o1,o2⟩=>by
    subst e
    intro b hb
    rcases List.mem_append.1 hb with hb|hb
    · exact o1.lt b hb
    · exact gC.lt o2 b hb
theorem uh.nb{h:AH}{base:Nat}{v:AV}{r:RD}{fp:List Nat}(o:uh h v r fp)(hb:∀b∈fp,base≤b):NB base v:=by
  cases r with
  | c d=>exact b6.nb o hb
  | a cs=>obtain⟨as,rfl,o⟩:=o;exact .agg _ (o.nb hb)
theorem gC.nb{h:AH}{base:Nat}:∀{vs:List AV} {rs:List RD} {fp:List Nat},gC h vs rs fp→(∀b∈fp,base≤b)→∀x∈vs,NB base x
  | [],[],_,_,_=>fun x hx=>by simp at hx
  | a::as,d::ds,fp,⟨f1,f2,e,o1,o2⟩,hb=>by
    subst e
    intro x hx
    rcases List.mem_cons.1 hx with rfl|hx
    · exact o1.nb fun b h=>hb b (by simp[h])
    · exact gC.nb o2 (fun b h=>hb b (by simp[h])) x hx
theorem DP{base:Nat}{vs:List AV}(h:∀x∈vs,NB base x):NB base (kx vs):=by
  unfold kx
  split
  · exact h _ (by simp)
  · exact .tup _ h
theorem aG.Fy{h:AH}{base:Nat}:∀{as:List AV} {ds:List CD} {fp:List Nat},aG h as ds fp→(∀b∈fp,base≤b)→∀b∈fp,∀g cs,h[b]? = some (some (g,cs))→∀x∈cs,NB base x
  | [],[],_,o,_=>by cases o;intro b hb;simp at hb
  | a::as,d::ds,fp,⟨f1,f2,e,o1,o2⟩,hh=>by
    subst e
    intro b hb
    rcases List.mem_append.1 hb with hb|hb
    · exact o1.Fy (fun b h=>hh b (by simp[h])) b hb
    · exact aG.Fy o2 (fun b h=>hh b (by simp[h])) b hb
theorem gC.Fy{h:AH}{base:Nat}:∀{vs:List AV} {rs:List RD} {fp:List Nat},gC h vs rs fp→(∀b∈fp,base≤b)→∀b∈fp,∀g cs,h[b]? = some (some (g,cs))→∀x∈cs,NB base x
  | [],[],_,o,_=>by cases o;intro b hb;simp at hb
  | a::as,d::ds,fp,⟨f1,f2,e,o1,o2⟩,hh=>by
    subst e
    intro b hb
    rcases List.mem_append.1 hb with hb|hb
    · cases d with
      | c d=>exact b6.Fy o1 (fun b h=>hh b (by simp[h])) b hb
      | a cs=>obtain⟨as',_,o1⟩:=o1;exact aG.Fy o1 (fun b h=>hh b (by simp[h])) b hb
    · exact gC.Fy o2 (fun b h=>hh b (by simp[h])) b hb
theorem uh.IL{h:AH}{base:Nat}{v:AV}{r:RD}{fp:List Nat}(o:uh h v r fp)(hb:∀b∈fp,base≤b):yo base h v (r.av false):=by
  cases r with
  | c d=>exact(b6.view o).2 base hb
  | a cs=>
    obtain⟨as,rfl,o⟩:=o
    refine .agg as _ (by simp[o.len]) (fun i=>as.getD i .any) (fun i y hy=>?_) (fun i y hy=>?_)
    · obtain⟨x,hx,_⟩:=o.IL hb i y hy;simp[List.getD_eq_getElem?_getD,hx]
    · obtain⟨x,hx,hf⟩:=o.IL hb i y hy;simpa[List.getD_eq_getElem?_getD,hx]using hf
theorem gC.IL{h:AH}{base:Nat}:∀{vs:List AV} {rs:List RD} {fp:List Nat},gC h vs rs fp→(∀b∈fp,base≤b)→vs.length=rs.length∧∀(i:Nat) (y:AV),(rs.map (RD.av false))[i]? = some y→∃x,vs[i]? = some x∧yo base h x y
  | [],[],_,_,_=>⟨rfl,fun i y hy=>by simp at hy⟩
  | a::as,d::ds,fp,⟨f1,f2,e,o1,o2⟩,hb=>by
    subst e
    obtain⟨h1,h2⟩:=gC.IL o2 (fun b h=>hb b (by simp[h]))
    refine⟨by simp[h1],fun i y hy=>?_⟩
    cases i with
    | zero=>simp at hy;subst hy;exact⟨a,rfl,o1.IL fun b h=>hb b (by simp[h])⟩
    | succ i=>exact h2 i y (by simpa using hy)
theorem gC.L9{h:AH}{base:Nat}{vs:List AV}{rs:List RD}{fp:List Nat}(o:gC h vs rs fp)(hb:∀b∈fp,base≤b):yo base h (kx vs) (kx (rs.map (RD.av false))):=by
  obtain⟨h1,h2⟩:=o.IL hb
  match vs,rs,h1 with
  | [v],[r],_=>obtain⟨x,e,hf⟩:=h2 0 _ rfl;simp at e;subst e;exact hf
  | [],[],_=>exact .tup _ _ rfl (fun _=>.any) (fun i y hy=>by simp at hy) (fun i y hy=>by simp at hy)
  | v::v'::vs,r::r'::rs,h1=>
    refine .tup _ _ (by simpa using h1) (fun i=>(v::v'::vs).getD i .any) (fun i y hy=>?_) (fun i y hy=>?_)
    · obtain⟨x,hx,_⟩:=h2 i y hy;simp only[List.getD_eq_getElem?_getD,hx];rfl
    · obtain⟨x,hx,hf⟩:=h2 i y hy;simp only[List.getD_eq_getElem?_getD,hx];exact hf
def aV(h:AH)(rs:List RD)(v:AV)(h':AH):Prop:=
  ∃vs new fp,v=kx vs∧h'=h++new∧gC h' vs rs fp∧fp.Nodup∧(∀b∈fp,h.length≤b)∧∀b,h.length≤b→b<h'.length→b∉fp→h'[b]? = some none
theorem aV.Fy{h:AH}{rs:List RD}{vs:List AV}{new:AH}{fp:List Nat}(o:gC (h++new) vs rs fp)(hb:∀b∈fp,h.length≤b)(hd:∀b,h.length≤b→b<(h++new).length→b∉fp→(h++new)[b]? = some none):
    R7 h.length new:=by
  intro b g cs hcs x hx
  have hlt:=ay hcs
  have e:(h++new)[h.length+b]? = some (some (g,cs)):=by rw[List.getElem?_append_right (by omega)];simpa using hcs
  by_cases hm:h.length+b∈fp
  · exact o.Fy hb _ hm g cs e x hx
  · have:=hd (h.length+b) (by omega) (by simp;omega) hm
    rw[e]at this
    cases this
section
variable {P:Program} {Θ:lF} {Γ:bY}
theorem T.prune{f:FuncId}{args:List AV}{h:AH}{Q K:AV→AH→Prop}(t:T P Γ f args h Q)(hq:∀v h',Q v h'→∃h'',h''.length=h'.length∧(∀(b:Nat) (x:Nat×List AV),h''[b]? = some (some x)→h'[b]? = some (some x))∧K v h''):T P Γ f args h K:=by
  refine⟨t.1,fun ρ w cargs m gk ra=>(t.2 ρ w cargs m gk ra).mono ?_⟩
  rintro e w' ⟨v,cv,ρ',h',rfl,r1,r2,ev,q⟩
  obtain⟨h'',hl,hs,hk⟩:=hq _ _ q
  refine⟨v,cv,ρ',h'',rfl,r1,⟨fun b g cs hb=>r2.hp b g cs (hs b _ hb),r2.lp,r2.len,r2.nod,fun b g cs b' g' cs' c o n o' n' e1 e2=>r2.hh b g cs b' g' cs' c o n o' n' (hs _ _ e1) (hs _ _ e2),fun b g cs c o n i e1=>r2.hl b g cs c o n i (hs _ _ e1),r2.im,r2.iml,
    fun β c arr b g cs o n e1 e2=>r2.imh β c arr b g cs o n e1 (hs _ _ e2),fun b g c o n e1=>?_⟩,⟨ev.le,ev.ext,ev.sz,ev.fr,fun b g cs c o n e1=>ev.own b g cs c o n (hs _ _ e1),ev.ownl,ev.imo,by rw[hl];exact ev.len,ev.os,ev.out⟩,hk⟩
  obtain⟨d1,d2,d3⟩:=r2.dom b g c o n e1
  exact⟨d1,by rw[hl];exact d2,fun g' cs e2=>d3 g' cs (hs _ _ e2)⟩
theorem T.fresh{f:FuncId}{args:List AV}{h:AH}{Q:AV→AH→Prop}{rs:List RD}(t:T P Γ f args h Q)
    (hq:∀v h',Q v h'→∃vs new fp,v=kx vs∧h'=h++new∧gC h' vs rs fp∧fp.Nodup∧∀b∈fp,h.length≤b):T P Γ f args h (aV h rs):=by
  refine t.prune fun v h' q=>?_
  obtain⟨vs,new,fp,rfl,rfl,o,nd,hb⟩:=hq v h' q
  let new':AH:=new.mapIdx fun i x=>if h.length+i∈fp then x else none
  have b7:∀b,(h++new')[b]? = if h.length≤b∧b<(h++new).length∧b∉fp then some none else (h++new)[b]?:=by
    intro b
    rcases Nat.lt_or_ge b h.length with hlt|hge
    · rw[List.getElem?_append_left hlt,List.getElem?_append_left hlt,if_neg (by omega)]
    · rw[List.getElem?_append_right hge,List.getElem?_append_right hge]
      simp only[new',List.getElem?_mapIdx]
      rw[show h.length+(b-h.length)=b by omega]
      rcases Nat.lt_or_ge (b-h.length) new.length with hl|hl
      · rw[List.getElem?_eq_getElem hl]
        by_cases hm:b∈fp
        · simp[hm]
        · simp only[hm,if_false,Option.map_some,not_false_eq_true,and_true]
          rw[if_pos ⟨hge,by simp;omega⟩]
      · rw[List.getElem?_eq_none hl]
        simp only[Option.map_none]
        rw[if_neg (by simp;omega)]
  refine⟨h++new',by simp[new'],fun b x e=>?_,vs,new',fp,rfl,rfl,o.frame fun b hm=>?_,nd,hb,fun b h1 h2 h3=>?_⟩
  · rw[b7]at e
    split at e
    · cases e
    · exact e
  · rw[b7,if_neg (by simp[hm])]
  · rw[b7,if_pos ⟨h1,by simp[new']at h2;simpa using h2,h3⟩]
theorem T.frozen{f:FuncId}{args:List AV}{h:AH}{rs:List RD}(t:T P Γ f args h (aV h rs)):T P Γ f args h fun v h'=>v=kx (rs.map (RD.av false))∧h'=h:=by
  refine t.freeze ?_
  rintro v h' ⟨vs,new,fp,rfl,rfl,o,nd,hb,hd⟩
  exact⟨h,new,_,rfl,rfl,fun b g cs hb=>.inl hb,o.L9 hb,rfl,rfl⟩
theorem al.own{f:FuncId}{args args':List AV}{s:St}{rs:List RD}{K:AV→St→Prop}(ho:args.all dY=true)(hs:m0 s.heap args args')
    (t:∀h,T P Γ f args' h (aV h rs)) (hk:∀v h',aV s.heap rs v h'→K v { s with heap:=h' }):al P Γ f args s K:=by
  refine al.snap ho hs (t _) ?_
  rintro v h' ⟨vs,new,fp,rfl,rfl,o,nd,hb,hd⟩
  have hlr:(List.replicate s.heap.length (none:Option (Nat×List AV))).length=s.heap.length:=by simp
  have same:∀b,s.heap.length≤b→(s.heap++new)[b]? = (List.replicate s.heap.length none++new)[b]?:=fun b hb=>by
    rw[List.getElem?_append_right hb,List.getElem?_append_right (by rw[hlr];exact hb),hlr]
  rw[hlr]at hb hd
  have o':gC (s.heap++new) vs rs fp:=o.frame fun b hm=>same b (hb b hm)
  have hd':∀b,s.heap.length≤b→b<(s.heap++new).length→b∉fp→(s.heap++new)[b]? = some none:=fun b h1 h2 h3=>by
    rw[same b h1];exact hd b h1 (by simp at h2 ⊢;omega) h3
  exact⟨new,rfl,DP (o.nb hb),aV.Fy o' hb hd',hk _ _ ⟨vs,new,fp,rfl,rfl,o',nd,hb,hd'⟩⟩
theorem al.fV{f:FuncId}{args args':List AV}{s:St}{V:AV}{K:AV→St→Prop}(ho:args.all dY=true)(hs:m0 s.heap args args')
    (t:∀h,T P Γ f args' h fun v h'=>v=V∧h'=h) (hv:NB s.heap.length V) (hk:K V s):al P Γ f args s K:=by
  refine al.snap ho hs (t _) ?_
  rintro v h' ⟨rfl,rfl⟩
  exact⟨[],by simp,hv,.nil _,by simpa using hk⟩
theorem T.Oq{f:FuncId}{pre post:List AV}{β:Bool}{sz:Nat}{h:AH}{Q:AV→AH→Prop}(t1:T P Γ f (pre++.nils::post) h Q)(t2:∀a c,T P Γ f (pre++.opq (.slice (some a) 0 c)::post) h Q):
    T P Γ f (pre++.vs β sz false []::post) h Q:=by
  refine⟨t1.1,fun ρ w cargs m gk ra=>?_⟩
  have hl:=ra.1
  have hi:=ra.2 pre.length _ (by rw[List.getElem?_append_right (Nat.le_refl _),Nat.sub_self];rfl)
  have repl:∀y,RV ρ [] y (cargs.getD pre.length default)→gy ρ [] (pre++y::post) cargs:=by
    intro y hy
    refine⟨by simpa using hl,fun i x hx=>?_⟩
    by_cases he:i=pre.length
    · subst he
      rw[List.getElem?_append_right (Nat.le_refl _),Nat.sub_self]at hx
      injection hx with hx
      subst hx
      exact hy
    · refine ra.2 i x ?_
      rcases Nat.lt_or_ge i pre.length with h1|h1
      · rw[List.getElem?_append_left h1]at hx ⊢;exact hx
      · rw[List.getElem?_append_right h1]at hx ⊢
        obtain⟨j,hj⟩:∃j,i-pre.length=j+1:=⟨i-pre.length-1,by omega⟩
        rw[hj]at hx ⊢
        exact hx
  generalize cargs.getD pre.length default=cv at hi repl
  cases hi with
  | vs _ _ _ _ _ c o cap' f h1 h2 h3 h4 r=>exact(t2 _ _).2 ρ w cargs m gk (repl _ (.opq _ _))
  | vs0 _ _ _ _ a cap' h2=>exact(t2 _ _).2 ρ w cargs m gk (repl _ (.opq _ _))
  | vsn=>exact t1.2 ρ w cargs m gk (repl _ (.nils _))
end
end Go.AM
