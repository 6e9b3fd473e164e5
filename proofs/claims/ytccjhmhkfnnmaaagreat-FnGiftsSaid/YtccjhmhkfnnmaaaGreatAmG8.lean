import Derived.Test.YtccjhmhkfnnmaaaGreatAmG7
set_option linter.unusedVariables false
set_option linter.unusedSimpArgs false
namespace Go.AM
inductive CD where
  | i (k:IntKind) (n:Int)|b (x:Bool)|s (x:ByteArray)|sl (sz:Nat) (xs:List (List CD))
  deriving Inhabited
mutual
def CD.av(β:Bool):CD→AV
  | .i k n=>.int k n
  | .b x=>.bool x
  | .s x=>.str x
  | .sl sz xs=>.vs β sz false (CD.IL β xs)
def CD.Va(β:Bool):List CD→List AV
  | []=>[]
  | d::r=>d.av β::CD.Va β r
def CD.IL(β:Bool):List (List CD)→List (List AV)
  | []=>[]
  | d::r=>CD.Va β d::CD.IL β r
end
theorem CD.Ir(β:Bool):∀(l:List CD),CD.Va β l=l.map (CD.av β)
  | []=>rfl
  | d::r=>by simp[CD.Va,CD.Ir β r]
theorem CD.Dy(β:Bool):∀(l:List (List CD)),CD.IL β l=l.map fun x=>x.map (CD.av β)
  | []=>rfl
  | d::r=>by simp[CD.IL,CD.Ir,CD.Dy β r]
theorem CD.fb(β:Bool)(k:IntKind)(n:Int):(CD.i k n).av β=.int k n:=by simp[CD.av]
theorem CD.fc(β x:Bool):(CD.b x).av β=.bool x:=by simp[CD.av]
theorem CD.k8(β:Bool)(x:ByteArray):(CD.s x).av β=.str x:=by simp[CD.av]
theorem CD.gx(β:Bool)(sz:Nat)(xs:List (List CD)):(CD.sl sz xs).av β=.vs β sz false (xs.map fun x=>x.map (CD.av β)):=by simp[CD.av,CD.Dy]
theorem CD.bo(β:Bool)(d:CD):Go.AM.bo (d.av β)=true:=by cases d<;>simp[CD.av,Go.AM.bo]
theorem CD.bK(β:Bool)(d:CD):Go.AM.bK (d.av β)=true:=kt (d.bo β)
inductive atom:AV→Prop
  | i (k:IntKind) (n:Int):atom (.int k n)
  | b (x:Bool):atom (.bool x)
  | s (x:ByteArray):atom (.str x)
  | ns:atom .nils
  | np:atom .nilp
inductive bN (h:AH):AV→CD→List Nat→Prop
  | i (k:IntKind) (n:Int):bN h (.int k n) (.i k n) []
  | b (x:Bool):bN h (.bool x) (.b x) []
  | s (x:ByteArray):bN h (.str x) (.s x) []
  | nil (sz:Nat):bN h .nils (.sl sz []) []
  | gs (b g len cap sz:Nat) (ex:Bool) (as tail:List AV) (xs:List (List CD)) (fps:List (List Nat))
      (h1:bJ h b=some (g,as++tail)) (h2:xs.length=len) (h3:∀l∈xs,l.length=sz) (h4:as.length=xs.flatten.length) (ht:∀x∈tail,atom x) (hc:len≤cap∧(cap-len)*sz≤tail.length)
      (hf:fps.length=as.length) (r:∀(i:Nat) (a:AV) (d:CD) (fp:List Nat),as[i]? = some a→xs.flatten[i]? = some d→fps[i]? = some fp→bN h a d fp):
      bN h (.gs b g 0 len cap sz ex) (.sl sz xs) (b::fps.flatten)
def aO(h:AH):List AV→List CD→List Nat→Prop
  | [],[],fp=>fp=[]
  | a::as,d::ds,fp=>∃f1 f2,fp=f1++f2∧bN h a d f1∧aO h as ds f2
  | _,_,_=>False
theorem aO.len{h:AH}:∀{as:List AV} {ds:List CD} {fp:List Nat},aO h as ds fp→as.length=ds.length
  | [],[],_,_=>rfl
  | a::as,d::ds,fp,hh=>by obtain⟨_,_,_,_,h2⟩:=hh;simp[aO.len h2]
  | [],_::_,_,hh=>hh.elim
  | _::_,[],_,hh=>hh.elim
theorem aO.of{h:AH}:∀{as:List AV} {ds:List CD} {fps:List (List Nat)},as.length=ds.length→fps.length=as.length→
    (∀(i:Nat) (a:AV) (d:CD) (fp:List Nat),as[i]? = some a→ds[i]? = some d→fps[i]? = some fp→bN h a d fp)→aO h as ds fps.flatten
  | [],[],[],_,_,_=>rfl
  | a::as,d::ds,f::fps,h1,h2,r=>⟨f,fps.flatten,rfl,r 0 a d f rfl rfl rfl,aO.of (by simpa using h1) (by simpa using h2) (fun i a d fp e1 e2 e3=>r (i+1) a d fp (by simpa using e1) (by simpa using e2) (by simpa using e3))⟩
theorem aO.to{h:AH}:∀{as:List AV} {ds:List CD} {fp:List Nat},aO h as ds fp→∃fps:List (List Nat),fps.length=as.length∧fp=fps.flatten∧
    ∀(i:Nat) (a:AV) (d:CD) (fp:List Nat),as[i]? = some a→ds[i]? = some d→fps[i]? = some fp→bN h a d fp
  | [],[],fp,hh=>⟨[],rfl,hh,fun i a d fp e1=>by simp at e1⟩
  | a::as,d::ds,fp,hh=>by
    obtain⟨f1,f2,rfl,h1,h2⟩:=hh
    obtain⟨fps,e1,rfl,e3⟩:=aO.to h2
    refine⟨f1::fps,by simp[e1],rfl,fun i a' d' fp' g1 g2 g3=>?_⟩
    cases i with
    | zero=>simp at g1 g2 g3;subst g1 g2 g3;exact h1
    | succ i=>exact e3 i a' d' fp' (by simpa using g1) (by simpa using g2) (by simpa using g3)
theorem bN.sl_mk{h:AH}{b g cap sz:Nat}{ex:Bool}{as tail:List AV}{xs:List (List CD)}{fp:List Nat}(h1:bJ h b=some (g,as++tail))(h3:∀l∈xs,l.length=sz)(ht:∀x∈tail,atom x)(hc:xs.length≤cap∧(cap-xs.length)*sz≤tail.length)
    (r:aO h as xs.flatten fp):bN h (.gs b g 0 xs.length cap sz ex) (.sl sz xs) (b::fp):=by
  obtain⟨fps,e1,rfl,e3⟩:=r.to
  exact .gs b g _ cap sz ex as tail xs fps h1 rfl h3 r.len ht hc e1 e3
theorem bN.jW{h:AH}{a:AV}{sz:Nat}{xs:List (List CD)}{fp:List Nat}(o:bN h a (.sl sz xs) fp):(a=.nils∧xs=[]∧fp=[])∨
    ∃b g cap ex as tail fp',a=.gs b g 0 xs.length cap sz ex∧fp=b::fp'∧bJ h b=some (g,as++tail)∧(∀l∈xs,l.length=sz)∧(∀x∈tail,atom x)∧(xs.length≤cap∧(cap-xs.length)*sz≤tail.length)∧aO h as xs.flatten fp':=by
  cases o with
  | nil=>exact .inl ⟨rfl,rfl,rfl⟩
  | gs b g len cap sz ex as tail xs fps h1 h2 h3 h4 ht hc hf r=>
    subst h2
    exact .inr ⟨b,g,cap,ex,as,tail,_,rfl,rfl,h1,h3,ht,hc,aO.of h4 hf r⟩
theorem hU{h:AH}{a:AV}{k:IntKind}{n:Int}{fp:List Nat}:bN h a (.i k n) fp↔a=.int k n∧fp=[]:=
  ⟨fun o=>by cases o;exact⟨rfl,rfl⟩,fun⟨h1,h2⟩=>by subst h1 h2;exact .i _ _⟩
theorem jP{h:AH}{a:AV}{x:Bool}{fp:List Nat}:bN h a (.b x) fp↔a=.bool x∧fp=[]:=
  ⟨fun o=>by cases o;exact⟨rfl,rfl⟩,fun⟨h1,h2⟩=>by subst h1 h2;exact .b _⟩
theorem jm{h:AH}{a:AV}{x:ByteArray}{fp:List Nat}:bN h a (.s x) fp↔a=.str x∧fp=[]:=
  ⟨fun o=>by cases o;exact⟨rfl,rfl⟩,fun⟨h1,h2⟩=>by subst h1 h2;exact .s _⟩
theorem gD{h:AH}{as:List AV}{fp:List Nat}:aO h as [] fp↔as=[]∧fp=[]:=by
  cases as<;>simp[aO]
theorem gI{h:AH}{as:List AV}{d:CD}{ds:List CD}{fp:List Nat}:aO h as (d::ds) fp↔∃a as' f1 f2,as=a::as'∧fp=f1++f2∧bN h a d f1∧aO h as' ds f2:=by
  cases as with
  | nil=>simp[aO]
  | cons a as=>
    constructor
    · rintro⟨f1,f2,h1,h2,h3⟩;exact⟨a,as,f1,f2,rfl,h1,h2,h3⟩
    · rintro⟨a',as',f1,f2,h1,h2,h3,h4⟩;injection h1 with e1 e2;subst e1 e2;exact⟨f1,f2,h2,h3,h4⟩
theorem aO.append{h:AH}:∀{as bs:List AV} {ds es:List CD} {f1 f2:List Nat},aO h as ds f1→aO h bs es f2→aO h (as++bs) (ds++es) (f1++f2)
  | [],bs,[],es,f1,f2,h1,h2=>by cases h1;exact h2
  | a::as,bs,d::ds,es,f1,f2,⟨g1,g2,e,o1,o2⟩,h2=>by subst e;exact⟨g1,g2++f2,by simp,o1,aO.append o2 h2⟩
theorem aO.split{h:AH}:∀{as:List AV} {ds es:List CD} {fp:List Nat},aO h as (ds++es) fp→∃a1 a2 f1 f2,as=a1++a2∧fp=f1++f2∧aO h a1 ds f1∧aO h a2 es f2
  | as,[],es,fp,o=>⟨[],as,[],fp,rfl,rfl,rfl,o⟩
  | a::as,d::ds,es,fp,⟨g1,g2,e,o1,o2⟩=>by
    subst e
    obtain⟨a1,a2,f1,f2,e1,e2,o3,o4⟩:=aO.split o2
    subst e1 e2
    exact⟨a::a1,a2,g1++f1,f2,rfl,by simp,⟨g1,f1,rfl,o1,o3⟩,o4⟩
  | [],d::ds,es,fp,o=>o.elim
theorem bO{h h':AH}{b:Nat}(e:h'[b]? = h[b]?):bJ h' b=bJ h b:=by simp[bJ,e]
theorem bN.frame{h h':AH}{a:AV}{d:CD}{fp:List Nat}(o:bN h a d fp):(∀b∈fp,h'[b]? = h[b]?)→bN h' a d fp:=by
  induction o with
  | i=>exact fun _=>.i _ _
  | b=>exact fun _=>.b _
  | s=>exact fun _=>.s _
  | nil=>exact fun _=>.nil _
  | gs b g len cap sz ex as tail xs fps h1 h2 h3 h4 ht hc hf r ih=>
    intro hh
    refine .gs b g len cap sz ex as tail xs fps (by rw[bO (hh b (by simp))];exact h1) h2 h3 h4 ht hc hf (fun i a d fp e1 e2 e3=>ih i a d fp e1 e2 e3 fun c hc=>hh c ?_)
    exact List.mem_cons_of_mem _ (List.mem_flatten.2 ⟨fp,List.mem_of_getElem? e3,hc⟩)
theorem aO.frame{h h':AH}:∀{as:List AV} {ds:List CD} {fp:List Nat},aO h as ds fp→(∀b∈fp,h'[b]? = h[b]?)→aO h' as ds fp
  | [],[],_,o,_=>o
  | a::as,d::ds,fp,⟨f1,f2,e,o1,o2⟩,hh=>by
    subst e
    exact⟨f1,f2,rfl,o1.frame fun b hb=>hh b (by simp[hb]),aO.frame o2 fun b hb=>hh b (by simp[hb])⟩
theorem bN.lt{h:AH}{a:AV}{d:CD}{fp:List Nat}(o:bN h a d fp):∀b∈fp,b<h.length:=by
  induction o with
  | gs b g len cap sz ex as tail xs fps h1 h2 h3 h4 ht hc hf r ih=>
    intro c hc
    rcases List.mem_cons.1 hc with rfl|hc
    · exact aG (c8 h1)
    · obtain⟨fp,hfp,hc⟩:=List.mem_flatten.1 hc
      obtain⟨i,hi⟩:=List.mem_iff_getElem?.1 hfp
      have hlt:=aG hi
      exact ih i _ _ fp (List.getElem?_eq_getElem (by omega)) (List.getElem?_eq_getElem (by omega)) hi c hc
  | _=>intro b hb;simp at hb
theorem aO.lt{h:AH}:∀{as:List AV} {ds:List CD} {fp:List Nat},aO h as ds fp→∀b∈fp,b<h.length
  | [],[],_,o=>by cases o;intro b hb;simp at hb
  | a::as,d::ds,fp,⟨f1,f2,e,o1,o2⟩=>by
    subst e
    intro b hb
    rcases List.mem_append.1 hb with hb|hb
    · exact o1.lt b hb
    · exact aO.lt o2 b hb
theorem bN.grow{h new:AH}{a:AV}{d:CD}{fp:List Nat}(o:bN h a d fp):bN (h++new) a d fp:=
  o.frame fun b hb=>List.getElem?_append_left (o.lt b hb)
theorem aO.grow{h new:AH}{as:List AV}{ds:List CD}{fp:List Nat}(o:aO h as ds fp):aO (h++new) as ds fp:=
  o.frame fun b hb=>List.getElem?_append_left (o.lt b hb)
theorem bN.bo{h:AH}{a:AV}{d:CD}{fp:List Nat}(o:bN h a d fp):Go.AM.bo a=true:=by cases o<;>rfl
theorem aO.bo{h:AH}:∀{as:List AV} {ds:List CD} {fp:List Nat},aO h as ds fp→as.all Go.AM.bo=true
  | [],[],_,_=>rfl
  | a::as,d::ds,fp,⟨f1,f2,e,o1,o2⟩=>by simp[o1.bo,aO.bo o2]
theorem bN.nb{h:AH}{base:Nat}{a:AV}{d:CD}{fp:List Nat}(o:bN h a d fp)(hb:∀b∈fp,base≤b):NB base a:=by
  cases o with
  | i=>exact .int _ _
  | b=>exact .bool _
  | s=>exact .str _
  | nil=>exact .nils
  | gs=>exact .gs _ _ _ _ _ _ _ (hb _ (by simp))
theorem atom.nb{a:AV}(h:atom a)(base:Nat):NB base a:=by cases h<;>constructor
theorem aO.nb{h:AH}{base:Nat}:∀{as:List AV} {ds:List CD} {fp:List Nat},aO h as ds fp→(∀b∈fp,base≤b)→∀x∈as,NB base x
  | [],[],_,_,_=>fun x hx=>by simp at hx
  | a::as,d::ds,fp,⟨f1,f2,e,o1,o2⟩,hb=>by
    subst e
    intro x hx
    rcases List.mem_cons.1 hx with rfl|hx
    · exact o1.nb fun b h=>hb b (by simp[h])
    · exact aO.nb o2 (fun b h=>hb b (by simp[h])) x hx
theorem bN.Hg{h:AH}{base:Nat}{a:AV}{d:CD}{fp:List Nat}(o:bN h a d fp):(∀b∈fp,base≤b)→∀b∈fp,∀g cs,h[b]? = some (some (g,cs))→∀x∈cs,NB base x:=by
  induction o with
  | gs b g len cap sz ex as tail xs fps h1 h2 h3 h4 ht hc hf r ih=>
    intro hb c hc g' cs hcs x hx
    rcases List.mem_cons.1 hc with rfl|hc
    · have:=c8 h1
      rw[this]at hcs
      injection hcs with hcs
      injection hcs with hcs
      injection hcs with e1 e2
      subst e1 e2
      rcases List.mem_append.1 hx with hx|hx
      · exact(aO.of h4 hf r).nb (fun b h=>hb b (by simp[h])) x hx
      · exact(ht x hx).nb base
    · obtain⟨fp,hfp,hc⟩:=List.mem_flatten.1 hc
      obtain⟨i,hi⟩:=List.mem_iff_getElem?.1 hfp
      have hlt:=aG hi
      exact ih i _ _ fp (List.getElem?_eq_getElem (by omega)) (List.getElem?_eq_getElem (by omega)) hi (fun b h=>hb b (List.mem_cons_of_mem _ (List.mem_flatten.2 ⟨fp,hfp,h⟩))) c hc g' cs hcs x hx
  | _=>intro _ b hb;simp at hb
theorem DY{α:Type}{sz:Nat}:∀{xs:List (List α)} {i j:Nat} {l:List α} {x:α},(∀l∈xs,l.length=sz)→xs[i]? = some l→l[j]? = some x→xs.flatten[i*sz+j]? = some x
  | l'::xs,0,j,l,x,_,h1,h2=>by
    simp at h1;subst h1
    rw[List.flatten_cons,Nat.zero_mul,Nat.zero_add,List.getElem?_append_left (aG h2)];exact h2
  | l'::xs,i+1,j,l,x,h,h1,h2=>by
    rw[List.flatten_cons,Nat.succ_mul,List.getElem?_append_right (by rw[h l' (by simp)];omega),h l' (by simp),show i*sz+sz+j-sz=i*sz+j by omega]
    exact DY (fun l hl=>h l (by simp[hl])) (by simpa using h1) h2
theorem bN.view{h:AH}{a:AV}{d:CD}{fp:List Nat}(o:bN h a d fp):iE h a (d.av true)∧∀base,(∀b∈fp,base≤b)→A8 base h a (d.av false):=by
  induction o with
  | i=>rw[CD.fb,CD.fb];exact⟨.same _,fun _ _=>.same _ (.int _ _)⟩
  | b=>rw[CD.fc,CD.fc];exact⟨.same _,fun _ _=>.same _ (.bool _)⟩
  | s=>rw[CD.k8,CD.k8];exact⟨.same _,fun _ _=>.same _ (.str _)⟩
  | nil=>rw[CD.gx,CD.gx];exact⟨.nil _ _,fun _ _=>.nil _ _⟩
  | gs b g len cap sz ex as tail xs fps h1 h2 h3 h4 ht hc hf r ih=>
    subst h2
    rw[CD.gx,CD.gx]
    have look:∀(β:Bool) (i:Nat) (l:List AV),(xs.map fun x=>x.map (CD.av β))[i]? = some l→∃m,xs[i]? = some m∧l=m.map (CD.av β):=by
      intro β i l hl
      rw[List.getElem?_map,Option.map_eq_some_iff]at hl
      obtain⟨m,hm,rfl⟩:=hl
      exact⟨m,hm,rfl⟩
    have cell:∀(β:Bool) (i j:Nat) (l:List AV) (x:AV),(xs.map fun x=>x.map (CD.av β))[i]? = some l→l[j]? = some x→∃a d fp,as[i*sz+j]? = some a∧xs.flatten[i*sz+j]? = some d∧fps[i*sz+j]? = some fp∧x=d.av β:=by
      intro β i j l x hl hx
      obtain⟨m,hm,rfl⟩:=look β i l hl
      rw[List.getElem?_map,Option.map_eq_some_iff]at hx
      obtain⟨d,hd,rfl⟩:=hx
      have hd':=DY h3 hm hd
      have hlt:=aG hd'
      exact⟨_,d,_,List.getElem?_eq_getElem (by omega),hd',List.getElem?_eq_getElem (by omega),rfl⟩
    refine⟨.gs b g 0 _ cap sz ex false (as++tail) _ (fun i j=>as.getD (i*sz+j) .any) (c8 h1) (by simp) (by simp) ?_ ?_ ?_,fun base hb=>.gs b g 0 _ cap sz ex false (as++tail) _ (fun i j=>as.getD (i*sz+j) .any) (hb b (by simp)) (c8 h1) (by simp) (by simp) ?_ ?_ ?_⟩
    · intro i l hl;obtain⟨m,hm,rfl⟩:=look _ i l hl;simpa using h3 m (List.mem_of_getElem? hm)
    · intro i l hl j x hx
      obtain⟨a,d,fp,e1,e2,e3,rfl⟩:=cell _ i j l x hl hx
      rw[Nat.zero_add,List.getElem?_append_left (aG e1),e1];simp[List.getD_eq_getElem?_getD,e1]
    · intro i l hl j x hx
      obtain⟨a,d,fp,e1,e2,e3,rfl⟩:=cell _ i j l x hl hx
      have:=(ih _ a d fp e1 e2 e3).1
      simpa[List.getD_eq_getElem?_getD,e1]using this
    · intro i l hl;obtain⟨m,hm,rfl⟩:=look _ i l hl;simpa using h3 m (List.mem_of_getElem? hm)
    · intro i l hl j x hx
      obtain⟨a,d,fp,e1,e2,e3,rfl⟩:=cell _ i j l x hl hx
      rw[Nat.zero_add,List.getElem?_append_left (aG e1),e1];simp[List.getD_eq_getElem?_getD,e1]
    · intro i l hl j x hx
      obtain⟨a,d,fp,e1,e2,e3,rfl⟩:=cell _ i j l x hl hx
      have:=(ih _ a d fp e1 e2 e3).2 base fun b h=>hb b (List.mem_cons_of_mem _ (List.mem_flatten.2 ⟨fp,List.mem_of_getElem? e3,h⟩))
      simpa[List.getD_eq_getElem?_getD,e1]using this
theorem aO.snap{h:AH}:∀{as:List AV} {ds:List CD} {fp:List Nat},aO h as ds fp→mO h as (ds.map (CD.av true))
  | [],[],_,_=>trivial
  | a::as,d::ds,fp,⟨f1,f2,e,o1,o2⟩=>⟨o1.view.1,aO.snap o2⟩
theorem aO.JC{h:AH}{base:Nat}:∀{as:List AV} {ds:List CD} {fp:List Nat},aO h as ds fp→(∀b∈fp,base≤b)→∀(i:Nat) (y:AV),(ds.map (CD.av false))[i]? = some y→∃x,as[i]? = some x∧A8 base h x y
  | [],[],_,_,_,i,y,hy=>by simp at hy
  | a::as,d::ds,fp,⟨f1,f2,e,o1,o2⟩,hb,i,y,hy=>by
    subst e
    cases i with
    | zero=>simp at hy;subst hy;exact⟨a,rfl,o1.view.2 base fun b h=>hb b (by simp[h])⟩
    | succ i=>exact aO.JC o2 (fun b h=>hb b (by simp[h])) i y (by simpa using hy)
inductive RD where|c (d:CD)|a (cs:List CD)
def RD.av(β:Bool):RD→AV|.c d=>d.av β|.a cs=>.agg (cs.map (CD.av β))
def vQ(h:AH)(v:AV):RD→List Nat→Prop
  | .c d,fp=>bN h v d fp
  | .a cs,fp=>∃as,v=.agg as∧aO h as cs fp
def gb(h:AH):List AV→List RD→List Nat→Prop
  | [],[],fp=>fp=[]
  | v::vs,r::rs,fp=>∃f1 f2,fp=f1++f2∧vQ h v r f1∧gb h vs rs f2
  | _,_,_=>False
def i9:List AV→AV|[v]=>v|vs=>.tup vs
theorem vQ.frame{h h':AH}{v:AV}{r:RD}{fp:List Nat}(o:vQ h v r fp)(hh:∀b∈fp,h'[b]? = h[b]?):vQ h' v r fp:=by
  cases r with
  | c d=>exact bN.frame o hh
  | a cs=>obtain⟨as,e,o⟩:=o;exact⟨as,e,o.frame hh⟩
theorem gb.frame{h h':AH}:∀{vs:List AV} {rs:List RD} {fp:List Nat},gb h vs rs fp→(∀b∈fp,h'[b]? = h[b]?)→gb h' vs rs fp
  | [],[],_,o,_=>o
  | a::as,d::ds,fp,⟨f1,f2,e,o1,o2⟩,hh=>by
    subst e
    exact⟨f1,f2,rfl,o1.frame fun b hb=>hh b (by simp[hb]),gb.frame o2 fun b hb=>hh b (by simp[hb])⟩
theorem vQ.lt{h:AH}{v:AV}{r:RD}{fp:List Nat}(o:vQ h v r fp):∀b∈fp,b<h.length:=by
  cases r with
  | c d=>exact bN.lt o
  | a cs=>obtain⟨as,e,o⟩:=o;exact o.lt
theorem gb.lt{h:AH}:∀{vs:List AV} {rs:List RD} {fp:List Nat},gb h vs rs fp→∀b∈fp,b<h.length
  | [],[],_,o=>by cases o;intro b hb;simp at hb
  | a::as,d::ds,fp,⟨f1,f2,e,o1,o2⟩=>by
    subst e
    intro b hb
    rcases List.mem_append.1 hb with hb|hb
    · exact o1.lt b hb
    · exact gb.lt o2 b hb
theorem vQ.nb{h:AH}{base:Nat}{v:AV}{r:RD}{fp:List Nat}(o:vQ h v r fp)(hb:∀b∈fp,base≤b):NB base v:=by
  cases r with
  | c d=>exact bN.nb o hb
  | a cs=>obtain⟨as,rfl,o⟩:=o;exact .agg _ (o.nb hb)
theorem gb.nb{h:AH}{base:Nat}:∀{vs:List AV} {rs:List RD} {fp:List Nat},gb h vs rs fp→(∀b∈fp,base≤b)→∀x∈vs,NB base x
  | [],[],_,_,_=>fun x hx=>by simp at hx
  | a::as,d::ds,fp,⟨f1,f2,e,o1,o2⟩,hb=>by
    subst e
    intro x hx
    rcases List.mem_cons.1 hx with rfl|hx
    · exact o1.nb fun b h=>hb b (by simp[h])
    · exact gb.nb o2 (fun b h=>hb b (by simp[h])) x hx
theorem Cc{base:Nat}{vs:List AV}(h:∀x∈vs,NB base x):NB base (i9 vs):=by
  unfold i9
  split
  · exact h _ (by simp)
  · exact .tup _ h
theorem aO.Hg{h:AH}{base:Nat}:∀{as:List AV} {ds:List CD} {fp:List Nat},aO h as ds fp→(∀b∈fp,base≤b)→∀b∈fp,∀g cs,h[b]? = some (some (g,cs))→∀x∈cs,NB base x
  | [],[],_,o,_=>by cases o;intro b hb;simp at hb
  | a::as,d::ds,fp,⟨f1,f2,e,o1,o2⟩,hh=>by
    subst e
    intro b hb
    rcases List.mem_append.1 hb with hb|hb
    · exact o1.Hg (fun b h=>hh b (by simp[h])) b hb
    · exact aO.Hg o2 (fun b h=>hh b (by simp[h])) b hb
theorem gb.Hg{h:AH}{base:Nat}:∀{vs:List AV} {rs:List RD} {fp:List Nat},gb h vs rs fp→(∀b∈fp,base≤b)→∀b∈fp,∀g cs,h[b]? = some (some (g,cs))→∀x∈cs,NB base x
  | [],[],_,o,_=>by cases o;intro b hb;simp at hb
  | a::as,d::ds,fp,⟨f1,f2,e,o1,o2⟩,hh=>by
    subst e
    intro b hb
    rcases List.mem_append.1 hb with hb|hb
    · cases d with
      | c d=>exact bN.Hg o1 (fun b h=>hh b (by simp[h])) b hb
      | a cs=>obtain⟨as',_,o1⟩:=o1;exact aO.Hg o1 (fun b h=>hh b (by simp[h])) b hb
    · exact gb.Hg o2 (fun b h=>hh b (by simp[h])) b hb
theorem vQ.JC{h:AH}{base:Nat}{v:AV}{r:RD}{fp:List Nat}(o:vQ h v r fp)(hb:∀b∈fp,base≤b):A8 base h v (r.av false):=by
  cases r with
  | c d=>exact(bN.view o).2 base hb
  | a cs=>
    obtain⟨as,rfl,o⟩:=o
    refine .agg as _ (by simp[o.len]) (fun i=>as.getD i .any) (fun i y hy=>?_) (fun i y hy=>?_)
    · obtain⟨x,hx,_⟩:=o.JC hb i y hy;simp[List.getD_eq_getElem?_getD,hx]
    · obtain⟨x,hx,hf⟩:=o.JC hb i y hy;simpa[List.getD_eq_getElem?_getD,hx]using hf
theorem gb.JC{h:AH}{base:Nat}:∀{vs:List AV} {rs:List RD} {fp:List Nat},gb h vs rs fp→(∀b∈fp,base≤b)→vs.length=rs.length∧∀(i:Nat) (y:AV),(rs.map (RD.av false))[i]? = some y→∃x,vs[i]? = some x∧A8 base h x y
  | [],[],_,_,_=>⟨rfl,fun i y hy=>by simp at hy⟩
  | a::as,d::ds,fp,⟨f1,f2,e,o1,o2⟩,hb=>by
    subst e
    obtain⟨h1,h2⟩:=gb.JC o2 (fun b h=>hb b (by simp[h]))
    refine⟨by simp[h1],fun i y hy=>?_⟩
    cases i with
    | zero=>simp at hy;subst hy;exact⟨a,rfl,o1.JC fun b h=>hb b (by simp[h])⟩
    | succ i=>exact h2 i y (by simpa using hy)
theorem gb.R7{h:AH}{base:Nat}{vs:List AV}{rs:List RD}{fp:List Nat}(o:gb h vs rs fp)(hb:∀b∈fp,base≤b):A8 base h (i9 vs) (i9 (rs.map (RD.av false))):=by
  obtain⟨h1,h2⟩:=o.JC hb
  match vs,rs,h1 with
  | [v],[r],_=>obtain⟨x,e,hf⟩:=h2 0 _ rfl;simp at e;subst e;exact hf
  | [],[],_=>exact .tup _ _ rfl (fun _=>.any) (fun i y hy=>by simp at hy) (fun i y hy=>by simp at hy)
  | v::v'::vs,r::r'::rs,h1=>
    refine .tup _ _ (by simpa using h1) (fun i=>(v::v'::vs).getD i .any) (fun i y hy=>?_) (fun i y hy=>?_)
    · obtain⟨x,hx,_⟩:=h2 i y hy;simp only[List.getD_eq_getElem?_getD,hx];rfl
    · obtain⟨x,hx,hf⟩:=h2 i y hy;simp only[List.getD_eq_getElem?_getD,hx];exact hf
def aS(h:AH)(rs:List RD)(v:AV)(h':AH):Prop:=
  ∃vs new fp,v=i9 vs∧h'=h++new∧gb h' vs rs fp∧fp.Nodup∧(∀b∈fp,h.length≤b)∧∀b,h.length≤b→b<h'.length→b∉fp→h'[b]? = some none
theorem aS.Hg{h:AH}{rs:List RD}{vs:List AV}{new:AH}{fp:List Nat}(o:gb (h++new) vs rs fp)(hb:∀b∈fp,h.length≤b)(hd:∀b,h.length≤b→b<(h++new).length→b∉fp→(h++new)[b]? = some none):
    Ve h.length new:=by
  intro b g cs hcs x hx
  have hlt:=aG hcs
  have e:(h++new)[h.length+b]? = some (some (g,cs)):=by rw[List.getElem?_append_right (by omega)];simpa using hcs
  by_cases hm:h.length+b∈fp
  · exact o.Hg hb _ hm g cs e x hx
  · have:=hd (h.length+b) (by omega) (by simp;omega) hm
    rw[e]at this
    cases this
section
variable {P:Program} {Θ:mQ} {Γ:cj}
theorem T.prune{f:FuncId}{args:List AV}{h:AH}{Q K:AV→AH→Prop}(t:T P Γ f args h Q)(hq:∀v h',Q v h'→∃h'',h''.length=h'.length∧(∀(b:Nat) (x:Nat×List AV),h''[b]? = some (some x)→h'[b]? = some (some x))∧K v h''):T P Γ f args h K:=by
  refine⟨t.1,fun ρ w cargs m gk ra=>(t.2 ρ w cargs m gk ra).mono ?_⟩
  rintro e w' ⟨v,cv,ρ',h',rfl,r1,r2,ev,q⟩
  obtain⟨h'',hl,hs,hk⟩:=hq _ _ q
  refine⟨v,cv,ρ',h'',rfl,r1,⟨fun b g cs hb=>r2.hp b g cs (hs b _ hb),r2.lp,r2.len,r2.nod,fun b g cs b' g' cs' c o n o' n' e1 e2=>r2.hh b g cs b' g' cs' c o n o' n' (hs _ _ e1) (hs _ _ e2),fun b g cs c o n i e1=>r2.hl b g cs c o n i (hs _ _ e1),r2.im,r2.iml,
    fun β c arr b g cs o n e1 e2=>r2.imh β c arr b g cs o n e1 (hs _ _ e2),fun b g c o n e1=>?_⟩,⟨ev.le,ev.ext,ev.sz,ev.fr,fun b g cs c o n e1=>ev.own b g cs c o n (hs _ _ e1),ev.ownl,ev.imo,by rw[hl];exact ev.len,ev.os,ev.out⟩,hk⟩
  obtain⟨d1,d2,d3⟩:=r2.dom b g c o n e1
  exact⟨d1,by rw[hl];exact d2,fun g' cs e2=>d3 g' cs (hs _ _ e2)⟩
theorem T.fresh{f:FuncId}{args:List AV}{h:AH}{Q:AV→AH→Prop}{rs:List RD}(t:T P Γ f args h Q)
    (hq:∀v h',Q v h'→∃vs new fp,v=i9 vs∧h'=h++new∧gb h' vs rs fp∧fp.Nodup∧∀b∈fp,h.length≤b):T P Γ f args h (aS h rs):=by
  refine t.prune fun v h' q=>?_
  obtain⟨vs,new,fp,rfl,rfl,o,nd,hb⟩:=hq v h' q
  let new':AH:=new.mapIdx fun i x=>if h.length+i∈fp then x else none
  have bJ:∀b,(h++new')[b]? = if h.length≤b∧b<(h++new).length∧b∉fp then some none else (h++new)[b]?:=by
    intro b
    rcases Nat.lt_or_ge b h.length with hlt|hge
    · rw[List.getElem?_append_left hlt,List.getElem?_append_left hlt,if_neg (by omega)]
    · rw[List.getElem?_append_right hge,List.getElem?_append_right hge]
      simp only[new',List.getElem?_mapIdx]
      rw[show h.length+(b-h.length)=b by omega]
      rcases Nat.lt_or_ge (b-h.length) new.length with hl|hl
      · rw[List.getElem?_eq_getElem hl]
        by_cases hm:b∈fp
        · simp[hm]
        · simp only[hm,if_false,Option.map_some,not_false_eq_true,and_true]
          rw[if_pos ⟨hge,by simp;omega⟩]
      · rw[List.getElem?_eq_none hl]
        simp only[Option.map_none]
        rw[if_neg (by simp;omega)]
  refine⟨h++new',by simp[new'],fun b x e=>?_,vs,new',fp,rfl,rfl,o.frame fun b hm=>?_,nd,hb,fun b h1 h2 h3=>?_⟩
  · rw[bJ]at e
    split at e
    · cases e
    · exact e
  · rw[bJ,if_neg (by simp[hm])]
  · rw[bJ,if_pos ⟨h1,by simp[new']at h2;simpa using h2,h3⟩]
theorem T.frozen{f:FuncId}{args:List AV}{h:AH}{rs:List RD}(t:T P Γ f args h (aS h rs)):T P Γ f args h fun v h'=>v=i9 (rs.map (RD.av false))∧h'=h:=by
  refine t.freeze ?_
  rintro v h' ⟨vs,new,fp,rfl,rfl,o,nd,hb,hd⟩
  exact⟨h,new,_,rfl,rfl,fun b g cs hb=>.inl hb,o.R7 hb,rfl,rfl⟩
theorem ah.own{f:FuncId}{args args':List AV}{s:St}{rs:List RD}{K:AV→St→Prop}(ho:args.all eH=true)(hs:mO s.heap args args')
    (t:∀h,T P Γ f args' h (aS h rs)) (hk:∀v h',aS s.heap rs v h'→K v { s with heap:=h' }):ah P Γ f args s K:=by
  refine ah.snap ho hs (t _) ?_
  rintro v h' ⟨vs,new,fp,rfl,rfl,o,nd,hb,hd⟩
  have hlr:(List.replicate s.heap.length (none:Option (Nat×List AV))).length=s.heap.length:=by simp
  have same:∀b,s.heap.length≤b→(s.heap++new)[b]? = (List.replicate s.heap.length none++new)[b]?:=fun b hb=>by
    rw[List.getElem?_append_right hb,List.getElem?_append_right (by rw[hlr];exact hb),hlr]
  rw[hlr]at hb hd
  have o':gb (s.heap++new) vs rs fp:=o.frame fun b hm=>same b (hb b hm)
  have hd':∀b,s.heap.length≤b→b<(s.heap++new).length→b∉fp→(s.heap++new)[b]? = some none:=fun b h1 h2 h3=>by
    rw[same b h1];exact hd b h1 (by simp at h2 ⊢;omega) h3
  exact⟨new,rfl,Cc (o.nb hb),aS.Hg o' hb hd',hk _ _ ⟨vs,new,fp,rfl,rfl,o',nd,hb,hd'⟩⟩
theorem ah.dT{f:FuncId}{args args':List AV}{s:St}{V:AV}{K:AV→St→Prop}(ho:args.all eH=true)(hs:mO s.heap args args')
    (t:∀h,T P Γ f args' h fun v h'=>v=V∧h'=h) (hv:NB s.heap.length V) (hk:K V s):ah P Γ f args s K:=by
  refine ah.snap ho hs (t _) ?_
  rintro v h' ⟨rfl,rfl⟩
  exact⟨[],by simp,hv,.nil _,by simpa using hk⟩
theorem T.T6{f:FuncId}{pre post:List AV}{β:Bool}{sz:Nat}{h:AH}{Q:AV→AH→Prop}(t1:T P Γ f (pre++.nils::post) h Q)(t2:∀a c,T P Γ f (pre++.opq (.slice (some a) 0 c)::post) h Q):
    T P Γ f (pre++.vs β sz false []::post) h Q:=by
  refine⟨t1.1,fun ρ w cargs m gk ra=>?_⟩
  have hl:=ra.1
  have hi:=ra.2 pre.length _ (by rw[List.getElem?_append_right (Nat.le_refl _),Nat.sub_self];rfl)
  have repl:∀y,RV ρ [] y (cargs.getD pre.length default)→hH ρ [] (pre++y::post) cargs:=by
    intro y hy
    refine⟨by simpa using hl,fun i x hx=>?_⟩
    by_cases he:i=pre.length
    · subst he
      rw[List.getElem?_append_right (Nat.le_refl _),Nat.sub_self]at hx
      injection hx with hx
      subst hx
      exact hy
    · refine ra.2 i x ?_
      rcases Nat.lt_or_ge i pre.length with h1|h1
      · rw[List.getElem?_append_left h1]at hx ⊢;exact hx
      · rw[List.getElem?_append_right h1]at hx ⊢
        obtain⟨j,hj⟩:∃j,i-pre.length=j+1:=⟨i-pre.length-1,by omega⟩
        rw[hj]at hx ⊢
        exact hx
  generalize cargs.getD pre.length default=cv at hi repl
  cases hi with
  | vs _ _ _ _ _ c o cap' f h1 h2 h3 h4 r=>exact(t2 _ _).2 ρ w cargs m gk (repl _ (.opq _ _))
  | vs0 _ _ _ _ a cap' h2=>exact(t2 _ _).2 ρ w cargs m gk (repl _ (.opq _ _))
  | vsn=>exact t1.2 ρ w cargs m gk (repl _ (.nils _))
end
end Go.AM
namespace Go.AM
structure ar where
  kind:Int
  n:Int
  deriving DecidableEq,Inhabited
def ar.cd(x:ar):List CD:=[.i .i64 x.kind,.i .i64 x.n]
def ar.c(β:Bool)(x:ar):List AV:=[.int .i64 x.kind,.int .i64 x.n]
theorem ar.bM(β:Bool)(x:ar):x.cd.map (CD.av β)=x.c β:=by simp[ar.cd,ar.c,CD.fb,CD.fc,CD.k8,CD.gx,Function.comp_def]
theorem ar.iZ(β:Bool)(x:ar):(x.c β).length=2:=rfl
theorem ar.e9(β:Bool)(x:ar):(x.c β).all bo=true:=rfl
theorem ar.dec(x y:ar):(x.kind=y.kind∧x.n=y.n)=(x=y):=by cases x;cases y;simp
structure m0 where
  vat:Int
  entity:Int
  seq:Int
  deriving DecidableEq,Inhabited
def m0.cd(x:m0):List CD:=[.i .i64 x.vat,.i .i64 x.entity,.i .i64 x.seq]
def m0.c(β:Bool)(x:m0):List AV:=[.int .i64 x.vat,.int .i64 x.entity,.int .i64 x.seq]
theorem m0.bM(β:Bool)(x:m0):x.cd.map (CD.av β)=x.c β:=by simp[m0.cd,m0.c,CD.fb,CD.fc,CD.k8,CD.gx,Function.comp_def]
theorem m0.iZ(β:Bool)(x:m0):(x.c β).length=3:=rfl
theorem m0.e9(β:Bool)(x:m0):(x.c β).all bo=true:=rfl
theorem m0.dec(x y:m0):(x.vat=y.vat∧x.entity=y.entity∧x.seq=y.seq)=(x=y):=by cases x;cases y;simp
structure aX where
  target:Int
  name:ByteArray
  args:List ar
  result:Int
  tag:m0
  deriving DecidableEq,Inhabited
def aX.cd(x:aX):List CD:=[.i .i64 x.target,.s x.name,.sl 2 (x.args.map ar.cd),.i .i64 x.result,.i .i64 x.tag.vat,.i .i64 x.tag.entity,.i .i64 x.tag.seq]
def aX.c(β:Bool)(x:aX):List AV:=[.int .i64 x.target,.str x.name,.vs β 2 false (x.args.map (ar.c β)),.int .i64 x.result,.int .i64 x.tag.vat,.int .i64 x.tag.entity,.int .i64 x.tag.seq]
theorem aX.bM(β:Bool)(x:aX):x.cd.map (CD.av β)=x.c β:=by simp[aX.cd,aX.c,CD.fb,CD.fc,CD.k8,CD.gx,Function.comp_def,ar.bM]
theorem aX.iZ(β:Bool)(x:aX):(x.c β).length=7:=rfl
theorem aX.e9(β:Bool)(x:aX):(x.c β).all bo=true:=rfl
def aX.ok(N:Nat)(x:aX):Prop:=(x.name.size≤N)∧(x.args.length≤N)
theorem aX.ok.mono{N M:Nat}(hN:N≤M){x:aX}(h:x.ok N):x.ok M:=⟨Nat.le_trans h.1 hN,Nat.le_trans h.2 hN⟩
structure cD where
  peer:Int
  question:Int
  deriving DecidableEq,Inhabited
def cD.cd(x:cD):List CD:=[.i .i64 x.peer,.i .i64 x.question]
def cD.c(β:Bool)(x:cD):List AV:=[.int .i64 x.peer,.int .i64 x.question]
theorem cD.bM(β:Bool)(x:cD):x.cd.map (CD.av β)=x.c β:=by simp[cD.cd,cD.c,CD.fb,CD.fc,CD.k8,CD.gx,Function.comp_def]
theorem cD.iZ(β:Bool)(x:cD):(x.c β).length=2:=rfl
theorem cD.e9(β:Bool)(x:cD):(x.c β).all bo=true:=rfl
theorem cD.dec(x y:cD):(x.peer=y.peer∧x.question=y.question)=(x=y):=by cases x;cases y;simp
structure aE where
  kind:Int
  script:Int
  slots:List ar
  state:Int
  value:ar
  queue:List aX
  askers:List cD
  peer:Int
  pos:Int
  count:Int
  sent:Int
  deriving DecidableEq,Inhabited
def aE.cd(x:aE):List CD:=[.i .i64 x.kind,.i .i64 x.script,.sl 2 (x.slots.map ar.cd),.i .i64 x.state,.i .i64 x.value.kind,.i .i64 x.value.n,.sl 7 (x.queue.map aX.cd),.sl 2 (x.askers.map cD.cd),.i .i64 x.peer,.i .i64 x.pos,.i .i64 x.count,.i .i64 x.sent]
def aE.c(β:Bool)(x:aE):List AV:=[.int .i64 x.kind,.int .i64 x.script,.vs β 2 false (x.slots.map (ar.c β)),.int .i64 x.state,.int .i64 x.value.kind,.int .i64 x.value.n,.vs β 7 false (x.queue.map (aX.c β)),.vs β 2 false (x.askers.map (cD.c β)),.int .i64 x.peer,.int .i64 x.pos,.int .i64 x.count,.int .i64 x.sent]
theorem aE.bM(β:Bool)(x:aE):x.cd.map (CD.av β)=x.c β:=by simp[aE.cd,aE.c,CD.fb,CD.fc,CD.k8,CD.gx,Function.comp_def,cD.bM,aX.bM,ar.bM]
theorem aE.iZ(β:Bool)(x:aE):(x.c β).length=12:=rfl
theorem aE.e9(β:Bool)(x:aE):(x.c β).all bo=true:=rfl
def aE.ok(N:Nat)(x:aE):Prop:=(x.slots.length≤N)∧(x.queue.length≤N)∧(∀y∈x.queue,y.ok N)∧(x.askers.length≤N)
theorem aE.ok.mono{N M:Nat}(hN:N≤M){x:aE}(h:x.ok N):x.ok M:=⟨Nat.le_trans h.1 hN,Nat.le_trans h.2.1 hN,fun y hy=>(h.2.2.1 y hy).mono hN,Nat.le_trans h.2.2.2 hN⟩
structure aM where
  pos:Int
  entity:Int
  count:Int
  deriving DecidableEq,Inhabited
def aM.cd(x:aM):List CD:=[.i .i64 x.pos,.i .i64 x.entity,.i .i64 x.count]
def aM.c(β:Bool)(x:aM):List AV:=[.int .i64 x.pos,.int .i64 x.entity,.int .i64 x.count]
theorem aM.bM(β:Bool)(x:aM):x.cd.map (CD.av β)=x.c β:=by simp[aM.cd,aM.c,CD.fb,CD.fc,CD.k8,CD.gx,Function.comp_def]
theorem aM.iZ(β:Bool)(x:aM):(x.c β).length=3:=rfl
theorem aM.e9(β:Bool)(x:aM):(x.c β).all bo=true:=rfl
theorem aM.dec(x y:aM):(x.pos=y.pos∧x.entity=y.entity∧x.count=y.count)=(x=y):=by cases x;cases y;simp
structure aH where
  id:Int
  promise:Int
  deriving DecidableEq,Inhabited
def aH.cd(x:aH):List CD:=[.i .i64 x.id,.i .i64 x.promise]
def aH.c(β:Bool)(x:aH):List AV:=[.int .i64 x.id,.int .i64 x.promise]
theorem aH.bM(β:Bool)(x:aH):x.cd.map (CD.av β)=x.c β:=by simp[aH.cd,aH.c,CD.fb,CD.fc,CD.k8,CD.gx,Function.comp_def]
theorem aH.iZ(β:Bool)(x:aH):(x.c β).length=2:=rfl
theorem aH.e9(β:Bool)(x:aH):(x.c β).all bo=true:=rfl
theorem aH.dec(x y:aH):(x.id=y.id∧x.promise=y.promise)=(x=y):=by cases x;cases y;simp
structure aC where
  peer:Int
  up:Bool
  exports:List aM
  next:Int
  questions:List aH
  asked:Int
  answers:List aH
  deriving DecidableEq,Inhabited
def aC.cd(x:aC):List CD:=[.i .i64 x.peer,.b x.up,.sl 3 (x.exports.map aM.cd),.i .i64 x.next,.sl 2 (x.questions.map aH.cd),.i .i64 x.asked,.sl 2 (x.answers.map aH.cd)]
def aC.c(β:Bool)(x:aC):List AV:=[.int .i64 x.peer,.bool x.up,.vs β 3 false (x.exports.map (aM.c β)),.int .i64 x.next,.vs β 2 false (x.questions.map (aH.c β)),.int .i64 x.asked,.vs β 2 false (x.answers.map (aH.c β))]
theorem aC.bM(β:Bool)(x:aC):x.cd.map (CD.av β)=x.c β:=by simp[aC.cd,aC.c,CD.fb,CD.fc,CD.k8,CD.gx,Function.comp_def,aM.bM,aH.bM]
theorem aC.iZ(β:Bool)(x:aC):(x.c β).length=7:=rfl
theorem aC.e9(β:Bool)(x:aC):(x.c β).all bo=true:=rfl
def aC.ok(N:Nat)(x:aC):Prop:=(x.exports.length≤N)∧(x.questions.length≤N)∧(x.answers.length≤N)
theorem aC.ok.mono{N M:Nat}(hN:N≤M){x:aC}(h:x.ok N):x.ok M:=⟨Nat.le_trans h.1 hN,Nat.le_trans h.2.1 hN,Nat.le_trans h.2.2 hN⟩
structure aV where
  kind:Int
  n:Int
  deriving DecidableEq,Inhabited
def aV.cd(x:aV):List CD:=[.i .i64 x.kind,.i .i64 x.n]
def aV.c(β:Bool)(x:aV):List AV:=[.int .i64 x.kind,.int .i64 x.n]
theorem aV.bM(β:Bool)(x:aV):x.cd.map (CD.av β)=x.c β:=by simp[aV.cd,aV.c,CD.fb,CD.fc,CD.k8,CD.gx,Function.comp_def]
theorem aV.iZ(β:Bool)(x:aV):(x.c β).length=2:=rfl
theorem aV.e9(β:Bool)(x:aV):(x.c β).all bo=true:=rfl
theorem aV.dec(x y:aV):(x.kind=y.kind∧x.n=y.n)=(x=y):=by cases x;cases y;simp
structure aB where
  kind:Int
  pos:Int
  answer:Int
  question:Int
  name:ByteArray
  args:List aV
  value:aV
  count:Int
  tag:m0
  deriving DecidableEq,Inhabited
def aB.cd(x:aB):List CD:=[.i .i64 x.kind,.i .i64 x.pos,.i .i64 x.answer,.i .i64 x.question,.s x.name,.sl 2 (x.args.map aV.cd),.i .i64 x.value.kind,.i .i64 x.value.n,.i .i64 x.count,.i .i64 x.tag.vat,.i .i64 x.tag.entity,.i .i64 x.tag.seq]
def aB.c(β:Bool)(x:aB):List AV:=[.int .i64 x.kind,.int .i64 x.pos,.int .i64 x.answer,.int .i64 x.question,.str x.name,.vs β 2 false (x.args.map (aV.c β)),.int .i64 x.value.kind,.int .i64 x.value.n,.int .i64 x.count,.int .i64 x.tag.vat,.int .i64 x.tag.entity,.int .i64 x.tag.seq]
theorem aB.bM(β:Bool)(x:aB):x.cd.map (CD.av β)=x.c β:=by simp[aB.cd,aB.c,CD.fb,CD.fc,CD.k8,CD.gx,Function.comp_def,aV.bM]
theorem aB.iZ(β:Bool)(x:aB):(x.c β).length=12:=rfl
theorem aB.e9(β:Bool)(x:aB):(x.c β).all bo=true:=rfl
def aB.ok(N:Nat)(x:aB):Prop:=(x.name.size≤N)∧(x.args.length≤N)
theorem aB.ok.mono{N M:Nat}(hN:N≤M){x:aB}(h:x.ok N):x.ok M:=⟨Nat.le_trans h.1 hN,Nat.le_trans h.2 hN⟩
structure bc where
  to_:Int
  message:aB
  deriving DecidableEq,Inhabited
def bc.cd(x:bc):List CD:=[.i .i64 x.to_,.i .i64 x.message.kind,.i .i64 x.message.pos,.i .i64 x.message.answer,.i .i64 x.message.question,.s x.message.name,.sl 2 (x.message.args.map aV.cd),.i .i64 x.message.value.kind,.i .i64 x.message.value.n,.i .i64 x.message.count,.i .i64 x.message.tag.vat,.i .i64 x.message.tag.entity,.i .i64 x.message.tag.seq]
def bc.c(β:Bool)(x:bc):List AV:=[.int .i64 x.to_,.int .i64 x.message.kind,.int .i64 x.message.pos,.int .i64 x.message.answer,.int .i64 x.message.question,.str x.message.name,.vs β 2 false (x.message.args.map (aV.c β)),.int .i64 x.message.value.kind,.int .i64 x.message.value.n,.int .i64 x.message.count,.int .i64 x.message.tag.vat,.int .i64 x.message.tag.entity,.int .i64 x.message.tag.seq]
theorem bc.bM(β:Bool)(x:bc):x.cd.map (CD.av β)=x.c β:=by simp[bc.cd,bc.c,CD.fb,CD.fc,CD.k8,CD.gx,Function.comp_def,aV.bM]
theorem bc.iZ(β:Bool)(x:bc):(x.c β).length=13:=rfl
theorem bc.e9(β:Bool)(x:bc):(x.c β).all bo=true:=rfl
def bc.ok(N:Nat)(x:bc):Prop:=(x.message.ok N)
theorem bc.ok.mono{N M:Nat}(hN:N≤M){x:bc}(h:x.ok N):x.ok M:=aB.ok.mono hN h
structure aA where
  id:Int
  entities:List aE
  loop:List aX
  aq:List aC
  out:List bc
  deriving DecidableEq,Inhabited
def aA.cd(x:aA):List CD:=[.i .i64 x.id,.sl 12 (x.entities.map aE.cd),.sl 7 (x.loop.map aX.cd),.sl 7 (x.aq.map aC.cd),.sl 13 (x.out.map bc.cd)]
def aA.c(β:Bool)(x:aA):List AV:=[.int .i64 x.id,.vs β 12 false (x.entities.map (aE.c β)),.vs β 7 false (x.loop.map (aX.c β)),.vs β 7 false (x.aq.map (aC.c β)),.vs β 13 false (x.out.map (bc.c β))]
theorem aA.bM(β:Bool)(x:aA):x.cd.map (CD.av β)=x.c β:=by simp[aA.cd,aA.c,CD.fb,CD.fc,CD.k8,CD.gx,Function.comp_def,aE.bM,aC.bM,bc.bM,aX.bM]
theorem aA.iZ(β:Bool)(x:aA):(x.c β).length=5:=rfl
theorem aA.e9(β:Bool)(x:aA):(x.c β).all bo=true:=rfl
def aA.ok(N:Nat)(x:aA):Prop:=(x.entities.length≤N)∧(∀y∈x.entities,y.ok N)∧(x.loop.length≤N)∧(∀y∈x.loop,y.ok N)∧(x.aq.length≤N)∧(∀y∈x.aq,y.ok N)∧(x.out.length≤N)∧(∀y∈x.out,y.ok N)
theorem aA.ok.mono{N M:Nat}(hN:N≤M){x:aA}(h:x.ok N):x.ok M:=⟨Nat.le_trans h.1 hN,fun y hy=>(h.2.1 y hy).mono hN,Nat.le_trans h.2.2.1 hN,fun y hy=>(h.2.2.2.1 y hy).mono hN,Nat.le_trans h.2.2.2.2.1 hN,fun y hy=>(h.2.2.2.2.2.1 y hy).mono hN,Nat.le_trans h.2.2.2.2.2.2.1 hN,fun y hy=>(h.2.2.2.2.2.2.2 y hy).mono hN⟩
structure au where
  nonce:Int
  giver:Int
  taker:Int
  entity:Int
  deriving DecidableEq,Inhabited
def au.cd(x:au):List CD:=[.i .i64 x.nonce,.i .i64 x.giver,.i .i64 x.taker,.i .i64 x.entity]
def au.c(β:Bool)(x:au):List AV:=[.int .i64 x.nonce,.int .i64 x.giver,.int .i64 x.taker,.int .i64 x.entity]
theorem au.bM(β:Bool)(x:au):x.cd.map (CD.av β)=x.c β:=by simp[au.cd,au.c,CD.fb,CD.fc,CD.k8,CD.gx,Function.comp_def]
theorem au.iZ(β:Bool)(x:au):(x.c β).length=4:=rfl
theorem au.e9(β:Bool)(x:au):(x.c β).all bo=true:=rfl
theorem au.dec(x y:au):(x.nonce=y.nonce∧x.giver=y.giver∧x.taker=y.taker∧x.entity=y.entity)=(x=y):=by cases x;cases y;simp
end Go.AM
namespace Go.AM
section
variable {P:Program} {Θ:mQ} {Γ:cj}
theorem dN{α:Type}(β:Bool)(sz:Nat)(ex:Bool)(l:List α)(ce:α→List AV):rE false (.vs β sz ex (l.map ce))=some (.int .i64 l.length):=by simp[rE,rY]
theorem dy{α:Type}{β:Bool}{sz:Nat}{ex:Bool}{l:List α}{ce:α→List AV}{k:Nat}(hk:k<l.length):eJ sz (.vs β sz ex (l.map ce)) (k:Int)=some (.ip β (ce l[k])):=by
  simp[eJ,hk]
theorem pC{cs:List AV}{n:Nat}(h:cs.length=n):sub cs 0 n=some cs:=by subst h;simp[sub]
theorem bN.cell{h:AH}{a:AV}{d:CD}{fp:List Nat}(o:bN h a d fp):cellsOf a=some [a]∧Go.AM.bK a=true∧Go.AM.bo a=true∧eH a=true:=by
  cases o<;>exact⟨rfl,rfl,rfl,rfl⟩
theorem aS.one{h h':AH}{d:CD}{v:AV}(f:aS h [.c d] v h'):∃new fp,h'=h++new∧bN h' v d fp∧fp.Nodup∧∀b∈fp,h.length≤b:=by
  obtain⟨vs,new,fp,rfl,rfl,o,nd,hb,_⟩:=f
  match vs,o with
  | [v],⟨f1,f2,e,o1,o2⟩=>
    have:f2=[]:=o2
    subst this
    simp only[List.append_nil]at e
    subst e
    exact⟨new,_,rfl,o1,nd,hb⟩
theorem aS.Wb{h h':AH}{cs:List CD}{v:AV}(f:aS h [.a cs] v h'):∃as new fp,v=.agg as∧h'=h++new∧aO h' as cs fp∧fp.Nodup∧∀b∈fp,h.length≤b:=by
  obtain⟨vs,new,fp,rfl,rfl,o,nd,hb,_⟩:=f
  match vs,o with
  | [v],⟨f1,f2,e,o1,o2⟩=>
    have:f2=[]:=o2
    subst this
    simp only[List.append_nil]at e
    subst e
    obtain⟨as,rfl,o1⟩:=o1
    exact⟨as,new,_,rfl,rfl,o1,nd,hb⟩
theorem T.n7{f:FuncId}{args:List AV}{h:AH}{d:CD}(t:T P Γ f args h fun v h'=>∃new fp,h'=h++new∧bN h' v d fp∧fp.Nodup∧∀b∈fp,h.length≤b):T P Γ f args h (aS h [.c d]):=
  t.fresh fun v h' ⟨new,fp,e,o,nd,hb⟩=>⟨[v],new,fp,rfl,e,⟨fp,[],by simp,o,rfl⟩,nd,hb⟩
theorem T.jr{f:FuncId}{args:List AV}{h:AH}{cs:List CD}(t:T P Γ f args h fun v h'=>∃as new fp,v=.agg as∧h'=h++new∧aO h' as cs fp∧fp.Nodup∧∀b∈fp,h.length≤b):T P Γ f args h (aS h [.a cs]):=
  t.fresh fun v h' ⟨as,new,fp,e,e',o,nd,hb⟩=>⟨[v],new,fp,rfl,e',⟨fp,[],by simp,⟨as,e,o⟩,rfl⟩,nd,hb⟩
theorem aO.nil{h:AH}:aO h [] [] []:=rfl
theorem aO.i{h:AH}{k:IntKind}{n:Int}{as:List AV}{ds:List CD}{fp:List Nat}(o:aO h as ds fp):aO h (.int k n::as) (.i k n::ds) fp:=⟨[],fp,rfl,.i _ _,o⟩
theorem aO.b{h:AH}{x:Bool}{as:List AV}{ds:List CD}{fp:List Nat}(o:aO h as ds fp):aO h (.bool x::as) (.b x::ds) fp:=⟨[],fp,rfl,.b _,o⟩
theorem aO.s{h:AH}{x:ByteArray}{as:List AV}{ds:List CD}{fp:List Nat}(o:aO h as ds fp):aO h (.str x::as) (.s x::ds) fp:=⟨[],fp,rfl,.s _,o⟩
theorem aO.o{h:AH}{a:AV}{d:CD}{as:List AV}{ds:List CD}{f1 f2:List Nat}(o1:bN h a d f1)(o:aO h as ds f2):aO h (a::as) (d::ds) (f1++f2):=⟨f1,f2,rfl,o1,o⟩
theorem eI{f1 f2:List Nat}{n:Nat}(h1:f1.Nodup)(h2:f2.Nodup)(l1:∀b∈f1,b<n)(l2:∀b∈f2,n≤b):(f1++f2).Nodup:=by
  rw[List.nodup_append]
  exact⟨h1,h2,fun a ha b hb=>by have:=l1 a ha;have:=l2 b hb;omega⟩
theorem fy{α β:Type}{l:List α}{f:α→List β}{sz:Nat}(h:∀x∈l,(f x).length=sz):((l.map f).flatten).length=l.length*sz:=by
  induction l with
  | nil=>simp
  | cons x l ih=>simp[ih (fun y hy=>h y (by simp[hy])),h x (by simp),Nat.succ_mul,Nat.add_comm]
end
end Go.AM
namespace Go.AM
section
variable {P:Program} {Θ:mQ} {Γ:cj}
def CD.flat:CD→Bool|.sl _ _=>false|_=>true
theorem CD.k7{h:AH}{d:CD}(hd:d.flat=true)(β:Bool):bN h (d.av β) d []:=by
  cases d<;>first|(simp[CD.flat]at hd;done)|(simp only[CD.av];constructor)
theorem jA{h:AH}(β:Bool):∀{cs:List CD},cs.all CD.flat=true→aO h (cs.map (CD.av β)) cs []
  | [],_=>rfl
  | d::r,hc=>by
    simp only[List.all_cons,Bool.and_eq_true]at hc
    exact⟨[],[],rfl,CD.k7 hc.1 β,jA β hc.2⟩
theorem T.flat{f:FuncId}{args:List AV}{h:AH}{x:List AV}(t:T P Γ f args h fun v h'=>v=.agg x∧h'=h){cs:List CD}(hc:cs.all CD.flat=true)(hx:x=cs.map (CD.av false)):T P Γ f args h (aS h [.a cs]):=by
  refine T.jr (t.mono ?_)
  rintro v h' ⟨rfl,rfl⟩
  exact⟨_,[],[],rfl,by simp,by rw[hx];exact jA false hc,by simp,by simp⟩
theorem an(a b:Int):(a != b) = !decide (a=b):=by by_cases h:a=b<;>simp[h]
end
end Go.AM
namespace Go.AM
theorem EY:type_of% (And.intro EV (And.intro EL (And.intro EB (And.intro @Bool.false_eq_true (And.intro @if_true.{1} (And.intro @if_false.{1} (@Option.bind_some.{0,0}))))))):=And.intro EV (And.intro EL (And.intro EB (And.intro @Bool.false_eq_true (And.intro @if_true.{1} (And.intro @if_false.{1} (@Option.bind_some.{0,0}))))))
end Go.AM
namespace Go.AM
section
variable {P:Program} {Θ:mQ} {Γ:cj}
def dI{α:Type}(p:α→Bool)(l:List α):Int:=match l.findIdx? p with|some i=>(i:Int)|none=>-1
theorem eQ{α:Type}(p:α→Bool)(l:List α):(∃(k:Nat) (hk:k<l.length),dI p l=(k:Int)∧p l[k]=true∧l.find? p=some l[k])∨(dI p l = -1∧l.find? p=none∧∀x∈l,p x=false):=by
  unfold dI
  cases h:l.findIdx? p with
  | none=>
    rw[List.findIdx?_eq_none_iff]at h
    exact .inr ⟨rfl,by rw[List.find?_eq_none];intro x hx;simp[h x hx],fun x hx=>h x hx⟩
  | some i=>
    obtain⟨hi,h1,h2⟩:=List.findIdx?_eq_some_iff_getElem.1 h
    refine .inl ⟨i,hi,rfl,h1,?_⟩
    rw[List.find?_eq_some_iff_getElem]
    exact⟨h1,i,hi,rfl,fun j hj=>by simpa using h2 j hj⟩
theorem kJ{α:Type}{p:α→Bool}{l:List α}{k:Nat}(hk:k<l.length)(h0:∀(i:Nat) (hi:i<l.length),i<k→p l[i]=false)(h1:p l[k]=true):dI p l=(k:Int):=by
  unfold dI
  rw[List.findIdx?_eq_some_iff_getElem.2 ⟨hk,h1,fun j hj=>by simp[h0 j (by omega) hj]⟩]
theorem kh{α:Type}{p:α→Bool}{l:List α}(h:∀(i:Nat) (hi:i<l.length),p l[i]=false):dI p l = -1:=by
  unfold dI
  rw[List.findIdx?_eq_none_iff.2]
  intro x hx
  obtain⟨i,hi,rfl⟩:=List.mem_iff_getElem.1 hx
  exact h i hi
theorem i5{α:Type}(tab:eO P Θ)(hm:P.follows .mixedOrders=true){f:FuncId}{sz:Nat}{agg:Bool}(hE:CM P Θ Γ f (mr sz agg) [.t 4] [u,u,u,u,u,u,u,u,u,u,u,u,u,u,u,u,u])
    {β:Bool} {l:List α} {c:α→List AV} (hb:l.length<1099511627776) (hx:∀x,Ow agg sz (c x)∧eH (O6 agg (c x))=true) {g:FuncId} {first caps:List AV} (hc:(first++caps).all eH=true) (p:α→Bool) {h:AH}
    (hp:∀x∈l,T P Γ g (first++([O6 agg (c x)]++caps)) h fun v h'=>v=.bool (p x)∧h'=h):
    T P Γ f [.vs β sz false (l.map c),.fn g first caps] h fun v h'=>v=.int .i64 (dI p l)∧h'=h:=by
  have L0:=dN β sz false l c
  generalize e0:AV.vs β sz false (l.map c)=a0 at *
  refine hE (aD tab hm [] _ _ _ ?_)
  unfold mr
  simp only[EV,EL,L0]
  refine dD tab hm [] (fun k:Nat=>k≤l.length∧∀(i:Nat) (hi:i<l.length),i<k→p l[i]=false) (fun k=>l.length-k)
    (fun k=>⟨[a0,.fn g first caps,.any,.any,.any,.any,.any,.int .i64 l.length,.int .i64 k,.any,.any,.any,.any,.any,.any,.any,.any,.any,.any],[],h⟩) 0 ⟨by omega,fun i hi h=>by omega⟩ ⟨by simp[eP,eM],rfl,rfl⟩ ?_
  rintro k ⟨hk,ht⟩
  simp only[EV,EL]
  refine bI (fun hlt=>?_) (fun hge=>?_)
  · have hlt:k<l.length:=by simpa using hlt
    have i0:=dy (β:=β) (sz:=sz) (ex:=false) (ce:=c) hlt
    rw[e0]at i0
    simp only[EV,EL,i0,Eg (hx l[k]).1]
    refine ah.val ?_ (hp _ (List.getElem_mem hlt)) ?_
    · simp only[List.all_append,List.all_cons,List.all_nil,Bool.and_true,Bool.and_eq_true]at hc ⊢
      exact⟨hc.1,(hx l[k]).2,hc.2⟩
    simp only[EV,EL]
    refine bI (fun hpt=>?_) (fun hpf=>?_)
    · simp only[EV,EL]
      exact⟨rfl,by rw[kJ hlt ht hpt]⟩
    · simp only[EV,EL]
      refine⟨k+1,⟨hlt,fun i hi hik=>?_⟩,by omega,⟨?_,rfl,rfl⟩⟩
      · rcases Nat.lt_or_ge i k with h1|h1
        · exact ht i hi h1
        · have:i=k:=by omega
          subst this;exact hpf
      · rw[wN (by omega)]
        simp[eP,eM]
  · have hge:k=l.length:=by simp at hge;omega
    simp only[EV,EL]
    exact⟨rfl,by rw[kh (fun i hi=>ht i hi (by omega))]⟩
def Au(sz bytes:Nat)(z:List AV):C:=.seq (.reg [⟨(some 2),none,.mov (.c (.nils))⟩]) (.seq (.seq (.reg [⟨(some 3),none,.mov (.t 0)⟩,
  ⟨(some 4),none,.bin .eql (.nils) (.t 3) (.c (.nils))⟩]) (.cond (.t 4) (.seq (.reg [⟨(some 2),none,.mov (.c (.nils))⟩]) (.ret)) (.skip))) (.seq (.reg [⟨(some 5),none,.bsl sz 0 z []⟩,
  ⟨(some 6),none,.mov (.t 0)⟩,
  ⟨(some 7),none,.app sz bytes z false (.t 5) (.t 6)⟩,
  ⟨(some 2),none,.mov (.t 7)⟩]) (.ret)))
def En(s:St)(sz len:Nat):Option (List AV)→AR|some cs=>if cs.all bo then .val (.gs s.heap.length 0 0 len len sz true) (s.push cs)else .stuck|none=>.stuck
theorem DC(gl:Bool)(s:St)(sz len:Nat)(z:List AV)(ps:List (Nat×X)):step Γ gl s (.bsl sz len z ps)=En s sz len (ib (List.replicate len z).flatten (ps.map fun p=>(p.1*sz,sz,s.eval Γ p.2))):=by
  simp only[step,En];cases ib _ _<;>rfl
def nq(s:St)(sz bytes:Nat)(x:AV):Option (List AV)→Option Nat→Option Nat→AR
  | some ys,some n,some m=>.EC (kT s sz bytes x ys n m)
  | _,_,_=>.stuck
theorem BV(gl:Bool)(s:St)(sz bytes:Nat)(z:List AV)(str:Bool)(x y:X):step Γ gl s (.app sz bytes z str x y)=nq s sz bytes (s.eval Γ x) (dp s sz str (s.eval Γ y)) (lenOf (s.eval Γ y)) (lenOf (s.eval Γ x)):=by
  simp only[step,nq];rfl
theorem rO{l:List (List AV)}(h:∀x∈l,x.all bo=true):l.flatten.all bo=true:=by
  rw[List.all_flatten,List.all_eq_true];exact h
theorem qG{α:Type}{c:α→List AV}{cd:α→List CD}(h:∀x,c x=(cd x).map (CD.av false))(l:List α):(l.map c).flatten=(l.map cd).flatten.map (CD.av false):=by
  have:c=fun x=>(cd x).map (CD.av false):=funext h
  subst this
  simp[List.map_flatten,Function.comp_def]
theorem pG{α:Type}(tab:eO P Θ)(hm:P.follows .mixedOrders=true){f:FuncId}{sz bytes:Nat}{z:List AV}(hE:NL P Θ Γ f (Au sz bytes z) [.t 2] [u,u,u,u,u,u,u])
    {β:Bool} {l:List α} {c:α→List AV} {cd:α→List CD} (h0:0<sz) (hb:l.length*(sz+bytes)≤aU) (hd:∀x,(cd x).length=sz∧(cd x).all CD.flat=true) (hcd:∀x,c x=(cd x).map (CD.av false)) {h:AH}:
    T P Γ f [.vs β sz false (l.map c)] h (aS h [.c (.sl sz (l.map cd))]):=by
  have hcl:∀x,(c x).length=sz:=fun x=>by rw[hcd];simpa using(hd x).1
  have hcn:∀x,(c x).all bo=true:=fun x=>by rw[hcd,List.all_map,List.all_eq_true];intro d _;exact d.bo false
  have hnil:T P Γ f [.nils] h (aS h [.c (.sl sz [])]):=by
    refine T.n7 (hE (aD tab hm [] _ _ _ ?_))
    unfold Au
    simp only[EV,EL]
    have:dY .eql .nils .nils .nils=some (.bool true):=rfl
    simp only[EV,EL,this]
    exact⟨rfl,[],[],by simp,.nil _,by simp,by simp⟩
  cases l with
  | nil=>
    simp only[List.map_nil]
    refine T.T6 (pre:=[]) (post:=[]) hnil (fun a cp=>?_)
    refine T.n7 (hE (aD tab hm [] _ _ _ ?_))
    unfold Au
    have e1:dY .eql .nils (.opq (.slice (some a) 0 cp)) .nils=some (.bool false):=rfl
    have app:∀e:List AV,kT ⟨e,[],h++[some (0,[])]⟩ sz bytes (.gs h.length 0 0 0 0 sz true) [] 0 0=some (.gs h.length 0 0 0 0 sz true,⟨e,[],h++[some (0,[])]⟩):=by
      intro e
      unfold kT
      rw[if_neg (by omega),if_neg (by omega)]
      simp[cw,cB]
    simp only[EV,EL,List.nil_append,e1,DC,List.replicate_zero,List.flatten_nil,List.map_nil,ib,En,List.all_nil,if_true,BV,dp,St.bp,lenOf,nq,app]
    refine⟨rfl,[some (0,[])],[h.length],rfl,?_,by simp,by simp⟩
    exact bN.sl_mk (xs:=[]) (as:=[]) (tail:=[]) (by simp[cw]) (by simp) (by simp) (by simp) rfl
  | cons x l=>
    refine T.n7 (hE (aD tab hm [] _ _ _ ?_))
    unfold Au
    have e1:dY .eql .nils (.vs β sz false ((x::l).map c)) .nils=some (.bool false):=rfl
    have hfl:((x::l).map c).flatten.length=(x::l).length*sz:=fy (fun y _=>hcl y)
    have hno:((x::l).map c).flatten.all bo=true:=rO (fun y hy=>by obtain⟨w,_,rfl⟩:=List.mem_map.1 hy;exact hcn w)
    have L1:lenOf (.vs β sz false ((x::l).map c))=some (x::l).length:=by simp[lenOf]
    have L2:∀s:St,dp s sz false (.vs β sz false ((x::l).map c))=some ((x::l).map c).flatten:=fun s=>by simp[dp,St.bp]
    have hln:(x::l).length=l.length+1:=rfl
    have hxs:=qG hcd (x::l)
    generalize (x::l).map c=xs at *
    have app:∀e:List AV,kT ⟨e,[],h++[some (0,[])]⟩ sz bytes (.gs h.length 0 0 0 0 sz true) xs.flatten (x::l).length 0=some (.gs h.length 1 0 (x::l).length (x::l).length sz false,⟨e,[],h++[some (1,xs.flatten)]⟩):=by
      intro e
      unfold kT
      rw[if_neg (by omega),if_neg (by rw[Nat.zero_add];omega)]
      simp only[cw,Option.bind_some,if_true,hno]
      rw[if_neg (by omega)]
      simp[sub]
    simp only[EV,EL,e1,DC,List.replicate_zero,List.flatten_nil,List.map_nil,ib,En,List.all_nil,if_true,BV,L1,L2,show ∀b g off cap:Nat,∀ex,lenOf (.gs b g off 0 cap sz ex)=some 0 from fun _ _ _ _ _=>rfl,nq,app]
    refine⟨rfl,[some (1,xs.flatten)],[h.length],rfl,?_,by simp,by simp⟩
    have:=bN.sl_mk (xs:=(x::l).map cd) (sz:=sz) (as:=xs.flatten) (tail:=[]) (h:=h++[some (1,xs.flatten)]) (b:=h.length) (g:=1) (cap:=(x::l).length) (ex:=false) (fp:=[]) (by rw[List.append_nil];exact cw _ _) (fun m hm=>by obtain⟨y,_,rfl⟩:=List.mem_map.1 hm;exact(hd y).1) (by simp) (by simp)
      (by rw[hxs];exact jA false (by rw[List.all_flatten,List.all_eq_true];intro m hm;obtain⟨y,_,rfl⟩:=List.mem_map.1 hm;exact(hd y).2))
    simpa using this
end
end Go.AM
namespace Go.AM
section
variable {P:Program} {Θ:mQ} {Γ:cj}
def CO:List AV→Nat→List AV→Option (List AV)
  | z,0,[]=>some z
  | _::z,0,x::vs=>(CO z 0 vs).map (x :: ·)
  | a::z,n+1,vs=>(CO z n vs).map (a :: ·)
  | [],0,_::_=>none
  | [],_+1,_=>none
theorem vD:∀(z:List AV) (o:Nat) (vs z':List AV),CO z o vs=some z'→o+vs.length≤z.length∧z'=cB z o vs
  | z,0,[],z',h=>by simp[CO]at h;subst h;simp[cB]
  | a::z,0,x::vs,z',h=>by
    simp only[CO,Option.map_eq_some_iff]at h
    obtain⟨y,h1,rfl⟩:=h
    obtain⟨h2,rfl⟩:=vD z 0 vs y h1
    refine⟨by simp at h2 ⊢;omega,?_⟩
    simp[cB]
  | a::z,n+1,vs,z',h=>by
    simp only[CO,Option.map_eq_some_iff]at h
    obtain⟨y,h1,rfl⟩:=h
    obtain⟨h2,rfl⟩:=vD z n vs y h1
    refine⟨by simp;omega,?_⟩
    simp[cB,show n+1+vs.length=(n+vs.length)+1 by omega]
  | [],0,_::_,_,h=>by simp[CO]at h
  | [],_+1,_,_,h=>by simp[CO]at h
theorem UK(z:List AV):CO z 0 []=some z:=by cases z<;>rfl
theorem TW(a x:AV)(z vs:List AV):CO (a::z) 0 (x::vs)=(CO z 0 vs).map (x :: ·):=rfl
theorem Uc(a:AV)(z vs:List AV)(n:Nat):CO (a::z) (n+1) vs=(CO z n vs).map (a :: ·):=rfl
def V9(f:List AV→Option (List AV))(alt:Option (List AV)):Option (List AV)→Option (List AV)|some z=>f z|none=>alt
def tO(z:List AV)(off:Nat)(cs:List AV)(rest:List (Nat×Nat×AV)):Option (List AV):=if off+cs.length≤z.length then ib (cB z off cs) rest else none
def DX(z:List AV)(off size:Nat)(rest:List (Nat×Nat×AV)):Option (List AV)→Option (List AV)
  | some cs=>if cs.length=size then tO z off cs rest else none
  | none=>none
theorem Aq(z:List AV):ib z []=some z:=rfl
theorem TR(z:List AV)(off size:Nat)(v:AV)(rest:List (Nat×Nat×AV)):ib z ((off,size,v)::rest)=DX z off size rest (cellsOf v):=by
  simp only[ib,DX,tO];cases cellsOf v<;>rfl
theorem Re(z:List AV)(off size:Nat)(rest:List (Nat×Nat×AV))(cs:List AV):DX z off size rest (some cs)=if cs.length=size then V9 (fun z'=>ib z' rest) (tO z off cs rest) (CO z off cs)else none:=by
  simp only[DX]
  split
  · cases h:CO z off cs with
    | none=>rfl
    | some z'=>
      obtain⟨h1,h2⟩:=vD _ _ _ _ h
      simp only[tO,if_pos h1,V9,h2]
  · rfl
theorem LO(f:List AV→Option (List AV))(alt:Option (List AV))(z:List AV):V9 f alt (some z)=f z:=rfl
theorem kb(gl:Bool)(s:St)(z:List AV)(ps:List (Nat×Nat×X)):step Γ gl s (.build z ps)=.iH s ((ib z (ps.map fun p=>(p.1,p.2.1,s.eval Γ p.2.2))).map .agg):=rfl
theorem A6{α β:Type}(f:α→β):List.map f []=[]:=rfl
theorem PM{α β:Type}(f:α→β)(x:α)(xs:List α):List.map f (x::xs)=f x::List.map f xs:=rfl
theorem ae(a b:Int):(a == b)=decide (a=b):=by by_cases h:a=b<;>simp[h]
theorem eS(a b a' b':Int):dY .eql (.agg [.int .i64,.int .i64]) (.agg [.int .i64 a,.int .i64 b]) (.agg [.int .i64 a',.int .i64 b'])=some (.bool (decide (a=a'∧b=b'))):=by
  simp[dY,mZ,sW,AZ,Bool.decide_and,ae]
theorem eX(a b c a' b' c':Int):dY .eql (.agg [.int .i64,.int .i64,.int .i64]) (.agg [.int .i64 a,.int .i64 b,.int .i64 c]) (.agg [.int .i64 a',.int .i64 b',.int .i64 c'])=some (.bool (decide (a=a'∧b=b'∧c=c'))):=by
  simp[dY,mZ,sW,AZ,Bool.decide_and,ae]
theorem mc{α:Type}{l:List α}{P:α→Prop}{k:Nat}{hk:k<l.length}(h:∀(i:Nat) (hi:i<l.length),i<k→P l[i])(hp:P l[k]):∀(i:Nat) (hi:i<l.length),i<k+1→P l[i]:=by
  intro i hi hik
  rcases Nat.lt_or_ge i k with g|g
  · exact h i hi g
  · have:i=k:=by omega
    subst this;exact hp
def ED(p:AV)(off:Nat):AV:=match p with|.gp b g o=>.gp b g (o+off)|.ip β cs=>.ip β (cs.drop off)|x=>x
structure Ptr (H:AH) (p:AV) (cs:List AV):Prop where
  nil:isNil p=some false
  out:eH p=true
  n1:iJ p=true
  fld:∀off,md off p=some (ED p off)
  rd:∀(e:List AV) (l:List (List AV)) (off n:Nat),off+(n+1)≤cs.length→(St.mk e l H).cells (ED p off) (n+1)=sub cs off (n+1)
  rd0:∀(e:List AV) (l:List (List AV)) (n:Nat),n+1≤cs.length→(St.mk e l H).cells p (n+1)=sub cs 0 (n+1)
theorem Ptr.ip(H:AH)(β:Bool)(cs:List AV):Ptr H (.ip β cs) cs:=by
  refine⟨rfl,rfl,rfl,fun _=>rfl,fun e l off n hn=>?_,fun e l n hn=>rfl⟩
  simp only[ED,St.cells,sub,Nat.zero_add,List.length_drop,List.drop_zero]
  rw[if_pos (by omega),if_pos hn]
theorem Ptr.gp{H:AH}{b g o:Nat}{cells cs:List AV}(h:bJ H b=some (g,cells))(hc:∀n,n≤cs.length→∀off,off+n≤cs.length→sub cells (o+off) n=sub cs off n):Ptr H (.gp b g o) cs:=by
  refine⟨rfl,rfl,rfl,fun _=>rfl,fun e l off n hn=>?_,fun e l n hn=>?_⟩
  · simp only[ED,St.cells,h,Option.bind_some,if_true];exact hc _ (by omega) off hn
  · simp only[St.cells,h,Option.bind_some,if_true];simpa using hc _ hn 0 (by omega)
theorem Ptr.QT{H:AH}{b g:Nat}{cs:List AV}(h:bJ H b=some (g,cs)):Ptr H (.gp b g 0) cs:=Ptr.gp h (fun n _ off _=>by rw[Nat.zero_add])
inductive Wk:AV→AV→Prop
  | rfl (x:AV):Wk x x
  | any (x:AV):Wk x .any
  | nil (β:Bool) (sz:Nat) (ex:Bool):Wk .nils (.vs β sz ex [])
  | agg (xs ys:List AV) (h1:xs.length=ys.length) (h:∀(i:Nat) (x y:AV),xs[i]? = some x→ys[i]? = some y→Wk x y):Wk (.agg xs) (.agg ys)
def Ga:List AV→List AV→Prop
  | [],[]=>True
  | x::xs,y::ys=>Wk x y∧Ga xs ys
  | _,_=>False
theorem Ga.spec:∀{xs ys:List AV},Ga xs ys→xs.length=ys.length∧∀(i:Nat) (x y:AV),xs[i]? = some x→ys[i]? = some y→Wk x y
  | [],[],_=>⟨Eq.refl _,fun i x y h=>by simp at h⟩
  | x::xs,y::ys,h=>by
    obtain⟨h1,h2⟩:=Ga.spec h.2
    refine⟨by simp[h1],fun i a b ha hb=>?_⟩
    cases i with
    | zero=>simp at ha hb;subst ha hb;exact h.1
    | succ i=>exact h2 i a b (by simpa using ha) (by simpa using hb)
  | [],_::_,h=>h.elim
  | _::_,[],h=>h.elim
theorem Ga.refl:∀(xs:List AV),Ga xs xs|[]=>trivial|x::xs=>⟨.rfl x,Ga.refl xs⟩
theorem Wk.RV{x y:AV}(h:Wk x y){ρ:gh}{ls:List Nat}:∀{v:Value},RV ρ ls x v→RV ρ ls y v:=by
  induction h with
  | rfl=>exact fun r=>r
  | any=>exact fun _=>.any _ _
  | nil β sz ex=>intro v r;cases r;exact .vsn _ _ _ _
  | agg xs ys h1 h ih=>
    intro v r
    cases r with
    | agg _ _ vs k1 kr=>
      refine .agg _ _ _ (by omega) (fun i y hy=>?_)
      have hlt:=aG hy
      exact ih i _ y (List.getElem?_eq_getElem (by omega)) hy (kr i _ (List.getElem?_eq_getElem (by omega)))
theorem Ga.hH{xs ys:List AV}(h:Ga xs ys){ρ:gh}{ls:List Nat}{vs:List Value}(r:hH ρ ls xs vs):hH ρ ls ys vs:=by
  obtain⟨h1,h2⟩:=h.spec
  refine⟨by rw[←h1];exact r.1,fun i y hy=>?_⟩
  have hlt:=aG hy
  exact(h2 i _ y (List.getElem?_eq_getElem (by omega)) hy).RV (r.2 i _ (List.getElem?_eq_getElem (by omega)))
theorem ah.Bp{f:FuncId}{args args':List AV}{s:St}{K:AV→St→Prop}(h:Ga args args')(t:ah P Γ f args' s K):ah P Γ f args s K:=
  fun ρ ls w cargs m g ra=>t ρ ls w cargs m g (h.hH ra)
theorem T.Bp{f:FuncId}{args args':List AV}{h:AH}{Q:AV→AH→Prop}(hw:Ga args args')(t:T P Γ f args' h Q):T P Γ f args h Q:=
  ⟨t.1,fun ρ w cargs m g ra=>t.2 ρ w cargs m g (hw.hH ra)⟩
def OC(s:St)(v:AV):Option Bool→AR|some false=>.val v s|_=>.stuck
theorem B2(gl:Bool)(s:St)(x:X):step Γ gl s (.nilchk x)=OC s (s.eval Γ x) (isNil (s.eval Γ x)):=by
  simp only[step,OC];split<;>simp_all
theorem Nm(s:St)(v:AV):OC s v (some false)=.val v s:=rfl
theorem BB(β:Bool)(cs:List AV):isNil (.ip β cs)=some false:=rfl
theorem Ci(b g o:Nat):isNil (.gp b g o)=some false:=rfl
theorem BC(i o:Nat):isNil (.lp i o)=some false:=rfl
theorem Jx:dY .eql .nilp .nilp .nilp=some (.bool true):=rfl
theorem KP(β:Bool)(cs:List AV):dY .eql .nilp (.ip β cs) .nilp=some (.bool false):=rfl
theorem KH(b g o:Nat):dY .eql .nilp (.gp b g o) .nilp=some (.bool false):=rfl
theorem Mv:dY .neq .nilp .nilp .nilp=some (.bool false):=rfl
theorem MD(β:Bool)(cs:List AV):dY .neq .nilp (.ip β cs) .nilp=some (.bool true):=rfl
theorem MA(b g o:Nat):dY .neq .nilp (.gp b g o) .nilp=some (.bool true):=rfl
theorem Nb(β:Bool)(cs:List AV):cellsOf (.ip β cs)=some [.ip β cs]:=rfl
theorem JJ(b g o:Nat):cellsOf (.gp b g o)=some [.gp b g o]:=rfl
theorem Ka(β:Bool)(sz:Nat)(ex:Bool)(xs:List (List AV)):bK (.vs β sz ex xs)=true:=rfl
theorem MY(β:Bool)(cs:List AV):bK (.ip β cs)=true:=rfl
theorem M4(b g o:Nat):bK (.gp b g o)=true:=rfl
theorem J4:bK .nilp=true:=rfl
theorem LQ:bK .nils=true:=rfl
end
theorem EF:type_of% (And.intro @UK (And.intro @TW (And.intro @Uc (And.intro @Aq (And.intro @TR (And.intro @Re (And.intro @LO (And.intro @kb (And.intro @A6 (And.intro @PM (And.intro @DC (((((And.intro @B2 (And.intro @Nm (And.intro @BB (And.intro @Ci (And.intro @BC (And.intro @Jx (And.intro @KP (And.intro @KH (And.intro @Mv (And.intro @MD (And.intro @MA (And.intro @Nb (And.intro @JJ (And.intro @Ka (And.intro @MY (And.intro @M4 (And.intro @J4 (@LQ))))))))))))))))))))))))))))))))):=And.intro @UK (And.intro @TW (And.intro @Uc (And.intro @Aq (And.intro @TR (And.intro @Re (And.intro @LO (And.intro @kb (And.intro @A6 (And.intro @PM (And.intro @DC (((((And.intro @B2 (And.intro @Nm (And.intro @BB (And.intro @Ci (And.intro @BC (And.intro @Jx (And.intro @KP (And.intro @KH (And.intro @Mv (And.intro @MD (And.intro @MA (And.intro @Nb (And.intro @JJ (And.intro @Ka (And.intro @MY (And.intro @M4 (And.intro @J4 (@LQ))))))))))))))))))))))))))))))))
theorem EZ:type_of% (And.intro EV (And.intro EL (And.intro EB (And.intro EF (And.intro @Bool.false_eq_true (And.intro @Bool.not_true (And.intro @Bool.not_false (And.intro @if_true.{1} (And.intro @if_false.{1} (@Option.bind_some.{0,0})))))))))):=And.intro EV (And.intro EL (And.intro EB (And.intro EF (And.intro @Bool.false_eq_true (And.intro @Bool.not_true (And.intro @Bool.not_false (And.intro @if_true.{1} (And.intro @if_false.{1} (@Option.bind_some.{0,0})))))))))
end Go.AM
