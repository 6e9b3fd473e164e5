import Derived.Test.YtdlbaonelfcahaaGreatDoorAmG7
set_option linter.unusedVariables false
set_option linter.unusedSimpArgs false
namespace Go.AM
inductive CD where
  | i (k:IntKind) (n:Int)|b (x:Bool)|s (x:ByteArray)|sl (sz:Nat) (xs:List (List CD))
  deriving Inhabited
mutual
def CD.av(β:Bool):CD→AV
  | .i k n=>.int k n
  | .b x=>.bool x
  | .s x=>.str x
  | .sl sz xs=>.vs β sz false (CD.D2 β xs)
def CD.Vx(β:Bool):List CD→List AV
  | []=>[]
  | d::r=>d.av β::CD.Vx β r
def CD.D2(β:Bool):List (List CD)→List (List AV)
  | []=>[]
  | d::r=>CD.Vx β d::CD.D2 β r
end
theorem CD.AW(β:Bool):∀(l:List CD),CD.Vx β l=l.map (CD.av β)
  | []=>rfl
  | d::r=>by simp[CD.Vx,CD.AW β r]
theorem CD.vq(β:Bool):∀(l:List (List CD)),CD.D2 β l=l.map fun x=>x.map (CD.av β)
  | []=>rfl
  | d::r=>by simp[CD.D2,CD.AW,CD.vq β r]
theorem CD.dD(β:Bool)(k:IntKind)(n:Int):(CD.i k n).av β=.int k n:=by simp[CD.av]
theorem CD.hY(β x:Bool):(CD.b x).av β=.bool x:=by simp[CD.av]
theorem CD.gQ(β:Bool)(x:ByteArray):(CD.s x).av β=.str x:=by simp[CD.av]
theorem CD.eG(β:Bool)(sz:Nat)(xs:List (List CD)):(CD.sl sz xs).av β=.vs β sz false (xs.map fun x=>x.map (CD.av β)):=by simp[CD.av,CD.vq]
theorem CD.bk(β:Bool)(d:CD):Go.AM.bk (d.av β)=true:=by cases d<;>simp[CD.av,Go.AM.bk]
theorem CD.b8(β:Bool)(d:CD):Go.AM.b8 (d.av β)=true:=gZ (d.bk β)
inductive atom:AV→Prop
  | i (k:IntKind) (n:Int):atom (.int k n)
  | b (x:Bool):atom (.bool x)
  | s (x:ByteArray):atom (.str x)
  | ns:atom .nils
  | np:atom .nilp
inductive bO (h:AH):AV→CD→List Nat→Prop
  | i (k:IntKind) (n:Int):bO h (.int k n) (.i k n) []
  | b (x:Bool):bO h (.bool x) (.b x) []
  | s (x:ByteArray):bO h (.str x) (.s x) []
  | nil (sz:Nat):bO h .nils (.sl sz []) []
  | gs (b g len cap sz:Nat) (ex:Bool) (zas tail:List AV) (xs:List (List CD)) (fps:List (List Nat))
      (h1:bA h b=some (g,zas++tail)) (h2:xs.length=len) (h3:∀l∈xs,l.length=sz) (h4:zas.length=xs.flatten.length) (ht:∀x∈tail,atom x) (hc:len≤cap∧(cap-len)*sz≤tail.length)
      (hf:fps.length=zas.length) (r:∀(i:Nat) (a:AV) (d:CD) (fp:List Nat),zas[i]? = some a→xs.flatten[i]? = some d→fps[i]? = some fp→bO h a d fp):
      bO h (.gs b g 0 len cap sz ex) (.sl sz xs) (b::fps.flatten)
def aV(h:AH):List AV→List CD→List Nat→Prop
  | [],[],fp=>fp=[]
  | a::zas,d::ds,fp=>∃f1 f2,fp=f1++f2∧bO h a d f1∧aV h zas ds f2
  | _,_,_=>False
theorem aV.len{h:AH}:∀{zas:List AV} {ds:List CD} {fp:List Nat},aV h zas ds fp→zas.length=ds.length
  | [],[],_,_=>rfl
  | a::zas,d::ds,fp,hh=>by obtain⟨_,_,_,_,h2⟩:=hh;simp[aV.len h2]
  | [],_::_,_,hh=>hh.elim
  | _::_,[],_,hh=>hh.elim
theorem aV.of{h:AH}:∀{zas:List AV} {ds:List CD} {fps:List (List Nat)},zas.length=ds.length→fps.length=zas.length→
    (∀(i:Nat) (a:AV) (d:CD) (fp:List Nat),zas[i]? = some a→ds[i]? = some d→fps[i]? = some fp→bO h a d fp)→aV h zas ds fps.flatten
  | [],[],[],_,_,_=>rfl
  | a::zas,d::ds,f::fps,h1,h2,r=>⟨f,fps.flatten,rfl,r 0 a d f rfl rfl rfl,aV.of (by simpa using h1) (by simpa using h2) (fun i a d fp e1 e2 e3=>r (i+1) a d fp (by simpa using e1) (by simpa using e2) (by simpa using e3))⟩
theorem aV.to{h:AH}:∀{zas:List AV} {ds:List CD} {fp:List Nat},aV h zas ds fp→∃fps:List (List Nat),fps.length=zas.length∧fp=fps.flatten∧
    ∀(i:Nat) (a:AV) (d:CD) (fp:List Nat),zas[i]? = some a→ds[i]? = some d→fps[i]? = some fp→bO h a d fp
  | [],[],fp,hh=>⟨[],rfl,hh,fun i a d fp e1=>by simp at e1⟩
  | a::zas,d::ds,fp,hh=>by
    obtain⟨f1,f2,rfl,h1,h2⟩:=hh
    obtain⟨fps,e1,rfl,e3⟩:=aV.to h2
    refine⟨f1::fps,by simp[e1],rfl,fun i a' d' fp' g1 g2 g3=>?_⟩
    cases i with
    | zero=>simp at g1 g2 g3;subst g1 g2 g3;exact h1
    | succ i=>exact e3 i a' d' fp' (by simpa using g1) (by simpa using g2) (by simpa using g3)
theorem bO.sl_mk{h:AH}{b g cap sz:Nat}{ex:Bool}{zas tail:List AV}{xs:List (List CD)}{fp:List Nat}(h1:bA h b=some (g,zas++tail))(h3:∀l∈xs,l.length=sz)(ht:∀x∈tail,atom x)(hc:xs.length≤cap∧(cap-xs.length)*sz≤tail.length)
    (r:aV h zas xs.flatten fp):bO h (.gs b g 0 xs.length cap sz ex) (.sl sz xs) (b::fp):=by
  obtain⟨fps,e1,rfl,e3⟩:=r.to
  exact .gs b g _ cap sz ex zas tail xs fps h1 rfl h3 r.len ht hc e1 e3
theorem bO.fj{h:AH}{a:AV}{sz:Nat}{xs:List (List CD)}{fp:List Nat}(o:bO h a (.sl sz xs) fp):(a=.nils∧xs=[]∧fp=[])∨
    ∃b g cap ex zas tail fp',a=.gs b g 0 xs.length cap sz ex∧fp=b::fp'∧bA h b=some (g,zas++tail)∧(∀l∈xs,l.length=sz)∧(∀x∈tail,atom x)∧(xs.length≤cap∧(cap-xs.length)*sz≤tail.length)∧aV h zas xs.flatten fp':=by
  cases o with
  | nil=>exact .inl ⟨rfl,rfl,rfl⟩
  | gs b g len cap sz ex zas tail xs fps h1 h2 h3 h4 ht hc hf r=>
    subst h2
    exact .inr ⟨b,g,cap,ex,zas,tail,_,rfl,rfl,h1,h3,ht,hc,aV.of h4 hf r⟩
theorem dU{h:AH}{a:AV}{k:IntKind}{n:Int}{fp:List Nat}:bO h a (.i k n) fp↔a=.int k n∧fp=[]:=
  ⟨fun o=>by cases o;exact⟨rfl,rfl⟩,fun⟨h1,h2⟩=>by subst h1 h2;exact .i _ _⟩
theorem dT{h:AH}{a:AV}{x:Bool}{fp:List Nat}:bO h a (.b x) fp↔a=.bool x∧fp=[]:=
  ⟨fun o=>by cases o;exact⟨rfl,rfl⟩,fun⟨h1,h2⟩=>by subst h1 h2;exact .b _⟩
theorem dM{h:AH}{a:AV}{x:ByteArray}{fp:List Nat}:bO h a (.s x) fp↔a=.str x∧fp=[]:=
  ⟨fun o=>by cases o;exact⟨rfl,rfl⟩,fun⟨h1,h2⟩=>by subst h1 h2;exact .s _⟩
theorem cO{h:AH}{zas:List AV}{fp:List Nat}:aV h zas [] fp↔zas=[]∧fp=[]:=by
  cases zas<;>simp[aV]
theorem cT{h:AH}{zas:List AV}{d:CD}{ds:List CD}{fp:List Nat}:aV h zas (d::ds) fp↔∃a as' f1 f2,zas=a::as'∧fp=f1++f2∧bO h a d f1∧aV h as' ds f2:=by
  cases zas with
  | nil=>simp[aV]
  | cons a zas=>
    constructor
    · rintro⟨f1,f2,h1,h2,h3⟩;exact⟨a,zas,f1,f2,rfl,h1,h2,h3⟩
    · rintro⟨a',as',f1,f2,h1,h2,h3,h4⟩;injection h1 with e1 e2;subst e1 e2;exact⟨f1,f2,h2,h3,h4⟩
theorem aV.append{h:AH}:∀{zas bs:List AV} {ds es:List CD} {f1 f2:List Nat},aV h zas ds f1→aV h bs es f2→aV h (zas++bs) (ds++es) (f1++f2)
  | [],bs,[],es,f1,f2,h1,h2=>by cases h1;exact h2
  | a::zas,bs,d::ds,es,f1,f2,⟨g1,g2,e,o1,o2⟩,h2=>by subst e;exact⟨g1,g2++f2,by simp,o1,aV.append o2 h2⟩
theorem aV.split{h:AH}:∀{zas:List AV} {ds es:List CD} {fp:List Nat},aV h zas (ds++es) fp→∃a1 a2 f1 f2,zas=a1++a2∧fp=f1++f2∧aV h a1 ds f1∧aV h a2 es f2
  | zas,[],es,fp,o=>⟨[],zas,[],fp,rfl,rfl,rfl,o⟩
  | a::zas,d::ds,es,fp,⟨g1,g2,e,o1,o2⟩=>by
    subst e
    obtain⟨a1,a2,f1,f2,e1,e2,o3,o4⟩:=aV.split o2
    subst e1 e2
    exact⟨a::a1,a2,g1++f1,f2,rfl,by simp,⟨g1,f1,rfl,o1,o3⟩,o4⟩
  | [],d::ds,es,fp,o=>o.elim
theorem dJ{h h':AH}{b:Nat}(e:h'[b]? = h[b]?):bA h' b=bA h b:=by simp[bA,e]
theorem bO.frame{h h':AH}{a:AV}{d:CD}{fp:List Nat}(o:bO h a d fp):(∀b∈fp,h'[b]? = h[b]?)→bO h' a d fp:=by
  induction o with
  | i=>exact fun _=>.i _ _
  | b=>exact fun _=>.b _
  | s=>exact fun _=>.s _
  | nil=>exact fun _=>.nil _
  | gs b g len cap sz ex zas tail xs fps h1 h2 h3 h4 ht hc hf r ih=>
    intro hh
    refine .gs b g len cap sz ex zas tail xs fps (by rw[dJ (hh b (by simp))];exact h1) h2 h3 h4 ht hc hf (fun i a d fp e1 e2 e3=>ih i a d fp e1 e2 e3 fun c hc=>hh c ?_)
    exact List.mem_cons_of_mem _ (List.mem_flatten.2 ⟨fp,List.mem_of_getElem? e3,hc⟩)
theorem aV.frame{h h':AH}:∀{zas:List AV} {ds:List CD} {fp:List Nat},aV h zas ds fp→(∀b∈fp,h'[b]? = h[b]?)→aV h' zas ds fp
  | [],[],_,o,_=>o
  | a::zas,d::ds,fp,⟨f1,f2,e,o1,o2⟩,hh=>by
    subst e
    exact⟨f1,f2,rfl,o1.frame fun b hb=>hh b (by simp[hb]),aV.frame o2 fun b hb=>hh b (by simp[hb])⟩
theorem bO.lt{h:AH}{a:AV}{d:CD}{fp:List Nat}(o:bO h a d fp):∀b∈fp,b<h.length:=by
  induction o with
  | gs b g len cap sz ex zas tail xs fps h1 h2 h3 h4 ht hc hf r ih=>
    intro c hc
    rcases List.mem_cons.1 hc with rfl|hc
    · exact aK (b6 h1)
    · obtain⟨fp,hfp,hc⟩:=List.mem_flatten.1 hc
      obtain⟨i,hi⟩:=List.mem_iff_getElem?.1 hfp
      have hlt:=aK hi
      exact ih i _ _ fp (List.getElem?_eq_getElem (by omega)) (List.getElem?_eq_getElem (by omega)) hi c hc
  | _=>intro b hb;simp at hb
theorem aV.lt{h:AH}:∀{zas:List AV} {ds:List CD} {fp:List Nat},aV h zas ds fp→∀b∈fp,b<h.length
  | [],[],_,o=>by cases o;intro b hb;simp at hb
  | a::zas,d::ds,fp,⟨f1,f2,e,o1,o2⟩=>by
    subst e
    intro b hb
    rcases List.mem_append.1 hb with hb|hb
    · exact o1.lt b hb
    · exact aV.lt o2 b hb
theorem bO.grow{h new:AH}{a:AV}{d:CD}{fp:List Nat}(o:bO h a d fp):bO (h++new) a d fp:=
  o.frame fun b hb=>List.getElem?_append_left (o.lt b hb)
theorem aV.grow{h new:AH}{zas:List AV}{ds:List CD}{fp:List Nat}(o:aV h zas ds fp):aV (h++new) zas ds fp:=
  o.frame fun b hb=>List.getElem?_append_left (o.lt b hb)
theorem bO.bk{h:AH}{a:AV}{d:CD}{fp:List Nat}(o:bO h a d fp):Go.AM.bk a=true:=by cases o<;>rfl
theorem aV.bk{h:AH}:∀{zas:List AV} {ds:List CD} {fp:List Nat},aV h zas ds fp→zas.all Go.AM.bk=true
  | [],[],_,_=>rfl
  | a::zas,d::ds,fp,⟨f1,f2,e,o1,o2⟩=>by simp[o1.bk,aV.bk o2]
theorem bO.nb{h:AH}{base:Nat}{a:AV}{d:CD}{fp:List Nat}(o:bO h a d fp)(hb:∀b∈fp,base≤b):NB base a:=by
  cases o with
  | i=>exact .int _ _
  | b=>exact .bool _
  | s=>exact .str _
  | nil=>exact .nils
  | gs=>exact .gs _ _ _ _ _ _ _ (hb _ (by simp))
theorem atom.nb{a:AV}(h:atom a)(base:Nat):NB base a:=by cases h<;>constructor
theorem aV.nb{h:AH}{base:Nat}:∀{zas:List AV} {ds:List CD} {fp:List Nat},aV h zas ds fp→(∀b∈fp,base≤b)→∀x∈zas,NB base x
  | [],[],_,_,_=>fun x hx=>by simp at hx
  | a::zas,d::ds,fp,⟨f1,f2,e,o1,o2⟩,hb=>by
    subst e
    intro x hx
    rcases List.mem_cons.1 hx with rfl|hx
    · exact o1.nb fun b h=>hb b (by simp[h])
    · exact aV.nb o2 (fun b h=>hb b (by simp[h])) x hx
theorem bO.Dj{h:AH}{base:Nat}{a:AV}{d:CD}{fp:List Nat}(o:bO h a d fp):(∀b∈fp,base≤b)→∀b∈fp,∀g cs,h[b]? = some (some (g,cs))→∀x∈cs,NB base x:=by
  induction o with
  | gs b g len cap sz ex zas tail xs fps h1 h2 h3 h4 ht hc hf r ih=>
    intro hb c hc g' cs hcs x hx
    rcases List.mem_cons.1 hc with rfl|hc
    · have:=b6 h1
      rw[this]at hcs
      injection hcs with hcs
      injection hcs with hcs
      injection hcs with e1 e2
      subst e1 e2
      rcases List.mem_append.1 hx with hx|hx
      · exact(aV.of h4 hf r).nb (fun b h=>hb b (by simp[h])) x hx
      · exact(ht x hx).nb base
    · obtain⟨fp,hfp,hc⟩:=List.mem_flatten.1 hc
      obtain⟨i,hi⟩:=List.mem_iff_getElem?.1 hfp
      have hlt:=aK hi
      exact ih i _ _ fp (List.getElem?_eq_getElem (by omega)) (List.getElem?_eq_getElem (by omega)) hi (fun b h=>hb b (List.mem_cons_of_mem _ (List.mem_flatten.2 ⟨fp,hfp,h⟩))) c hc g' cs hcs x hx
  | _=>intro _ b hb;simp at hb
theorem zr{α:Type}{sz:Nat}:∀{xs:List (List α)} {i j:Nat} {l:List α} {x:α},(∀l∈xs,l.length=sz)→xs[i]? = some l→l[j]? = some x→xs.flatten[i*sz+j]? = some x
  | l'::xs,0,j,l,x,_,h1,h2=>by
    simp at h1;subst h1
    rw[List.flatten_cons,Nat.zero_mul,Nat.zero_add,List.getElem?_append_left (aK h2)];exact h2
  | l'::xs,i+1,j,l,x,h,h1,h2=>by
    rw[List.flatten_cons,Nat.succ_mul,List.getElem?_append_right (by rw[h l' (by simp)];omega),h l' (by simp),show i*sz+sz+j-sz=i*sz+j by omega]
    exact zr (fun l hl=>h l (by simp[hl])) (by simpa using h1) h2
theorem bO.view{h:AH}{a:AV}{d:CD}{fp:List Nat}(o:bO h a d fp):gU h a (d.av true)∧∀base,(∀b∈fp,base≤b)→ue base h a (d.av false):=by
  induction o with
  | i=>rw[CD.dD,CD.dD];exact⟨.same _,fun _ _=>.same _ (.int _ _)⟩
  | b=>rw[CD.hY,CD.hY];exact⟨.same _,fun _ _=>.same _ (.bool _)⟩
  | s=>rw[CD.gQ,CD.gQ];exact⟨.same _,fun _ _=>.same _ (.str _)⟩
  | nil=>rw[CD.eG,CD.eG];exact⟨.nil _ _,fun _ _=>.nil _ _⟩
  | gs b g len cap sz ex zas tail xs fps h1 h2 h3 h4 ht hc hf r ih=>
    subst h2
    rw[CD.eG,CD.eG]
    have look:∀(β:Bool) (i:Nat) (l:List AV),(xs.map fun x=>x.map (CD.av β))[i]? = some l→∃m,xs[i]? = some m∧l=m.map (CD.av β):=by
      intro β i l hl
      rw[List.getElem?_map,Option.map_eq_some_iff]at hl
      obtain⟨m,hm,rfl⟩:=hl
      exact⟨m,hm,rfl⟩
    have cell:∀(β:Bool) (i j:Nat) (l:List AV) (x:AV),(xs.map fun x=>x.map (CD.av β))[i]? = some l→l[j]? = some x→∃a d fp,zas[i*sz+j]? = some a∧xs.flatten[i*sz+j]? = some d∧fps[i*sz+j]? = some fp∧x=d.av β:=by
      intro β i j l x hl hx
      obtain⟨m,hm,rfl⟩:=look β i l hl
      rw[List.getElem?_map,Option.map_eq_some_iff]at hx
      obtain⟨d,hd,rfl⟩:=hx
      have hd':=zr h3 hm hd
      have hlt:=aK hd'
      exact⟨_,d,_,List.getElem?_eq_getElem (by omega),hd',List.getElem?_eq_getElem (by omega),rfl⟩
    refine⟨.gs b g 0 _ cap sz ex false (zas++tail) _ (fun i j=>zas.getD (i*sz+j) .any) (b6 h1) (by simp) (by simp) ?_ ?_ ?_,fun base hb=>.gs b g 0 _ cap sz ex false (zas++tail) _ (fun i j=>zas.getD (i*sz+j) .any) (hb b (by simp)) (b6 h1) (by simp) (by simp) ?_ ?_ ?_⟩
    · intro i l hl;obtain⟨m,hm,rfl⟩:=look _ i l hl;simpa using h3 m (List.mem_of_getElem? hm)
    · intro i l hl j x hx
      obtain⟨a,d,fp,e1,e2,e3,rfl⟩:=cell _ i j l x hl hx
      rw[Nat.zero_add,List.getElem?_append_left (aK e1),e1];simp[List.getD_eq_getElem?_getD,e1]
    · intro i l hl j x hx
      obtain⟨a,d,fp,e1,e2,e3,rfl⟩:=cell _ i j l x hl hx
      have:=(ih _ a d fp e1 e2 e3).1
      simpa[List.getD_eq_getElem?_getD,e1]using this
    · intro i l hl;obtain⟨m,hm,rfl⟩:=look _ i l hl;simpa using h3 m (List.mem_of_getElem? hm)
    · intro i l hl j x hx
      obtain⟨a,d,fp,e1,e2,e3,rfl⟩:=cell _ i j l x hl hx
      rw[Nat.zero_add,List.getElem?_append_left (aK e1),e1];simp[List.getD_eq_getElem?_getD,e1]
    · intro i l hl j x hx
      obtain⟨a,d,fp,e1,e2,e3,rfl⟩:=cell _ i j l x hl hx
      have:=(ih _ a d fp e1 e2 e3).2 base fun b h=>hb b (List.mem_cons_of_mem _ (List.mem_flatten.2 ⟨fp,List.mem_of_getElem? e3,h⟩))
      simpa[List.getD_eq_getElem?_getD,e1]using this
theorem aV.snap{h:AH}:∀{zas:List AV} {ds:List CD} {fp:List Nat},aV h zas ds fp→jS h zas (ds.map (CD.av true))
  | [],[],_,_=>trivial
  | a::zas,d::ds,fp,⟨f1,f2,e,o1,o2⟩=>⟨o1.view.1,aV.snap o2⟩
theorem aV.FL{h:AH}{base:Nat}:∀{zas:List AV} {ds:List CD} {fp:List Nat},aV h zas ds fp→(∀b∈fp,base≤b)→∀(i:Nat) (y:AV),(ds.map (CD.av false))[i]? = some y→∃x,zas[i]? = some x∧ue base h x y
  | [],[],_,_,_,i,y,hy=>by simp at hy
  | a::zas,d::ds,fp,⟨f1,f2,e,o1,o2⟩,hb,i,y,hy=>by
    subst e
    cases i with
    | zero=>simp at hy;subst hy;exact⟨a,rfl,o1.view.2 base fun b h=>hb b (by simp[h])⟩
    | succ i=>exact aV.FL o2 (fun b h=>hb b (by simp[h])) i y (by simpa using hy)
inductive RD where|c (d:CD)|a (cs:List CD)
def RD.av(β:Bool):RD→AV|.c d=>d.av β|.a cs=>.agg (cs.map (CD.av β))
def qJ(h:AH)(v:AV):RD→List Nat→Prop
  | .c d,fp=>bO h v d fp
  | .a cs,fp=>∃zas,v=.agg zas∧aV h zas cs fp
def eO(h:AH):List AV→List RD→List Nat→Prop
  | [],[],fp=>fp=[]
  | v::vs,r::rs,fp=>∃f1 f2,fp=f1++f2∧qJ h v r f1∧eO h vs rs f2
  | _,_,_=>False
def jv:List AV→AV|[v]=>v|vs=>.tup vs
theorem qJ.frame{h h':AH}{v:AV}{r:RD}{fp:List Nat}(o:qJ h v r fp)(hh:∀b∈fp,h'[b]? = h[b]?):qJ h' v r fp:=by
  cases r with
  | c d=>exact bO.frame o hh
  | a cs=>obtain⟨zas,e,o⟩:=o;exact⟨zas,e,o.frame hh⟩
theorem eO.frame{h h':AH}:∀{vs:List AV} {rs:List RD} {fp:List Nat},eO h vs rs fp→(∀b∈fp,h'[b]? = h[b]?)→eO h' vs rs fp
  | [],[],_,o,_=>o
  | a::zas,d::ds,fp,⟨f1,f2,e,o1,o2⟩,hh=>by
    subst e
    exact⟨f1,f2,rfl,o1.frame fun b hb=>hh b (by simp[hb]),eO.frame o2 fun b hb=>hh b (by simp[hb])⟩
theorem qJ.lt{h:AH}{v:AV}{r:RD}{fp:List Nat}(o:qJ h v r fp):∀b∈fp,b<h.length:=by
  cases r with
  | c d=>exact bO.lt o
  | a cs=>obtain⟨zas,e,o⟩:=o;exact o.lt
theorem eO.lt{h:AH}:∀{vs:List AV} {rs:List RD} {fp:List Nat},eO h vs rs fp→∀b∈fp,b<h.length
  | [],[],_,o=>by cases o;intro b hb;simp at hb
  | a::zas,d::ds,fp,⟨f1,f2,e,o1,o2⟩=>by
    subst e
    intro b hb
    rcases List.mem_append.1 hb with hb|hb
    · exact o1.lt b hb
    · exact eO.lt o2 b hb
theorem qJ.nb{h:AH}{base:Nat}{v:AV}{r:RD}{fp:List Nat}(o:qJ h v r fp)(hb:∀b∈fp,base≤b):NB base v:=by
  cases r with
  | c d=>exact bO.nb o hb
  | a cs=>obtain⟨zas,rfl,o⟩:=o;exact .agg _ (o.nb hb)
theorem eO.nb{h:AH}{base:Nat}:∀{vs:List AV} {rs:List RD} {fp:List Nat},eO h vs rs fp→(∀b∈fp,base≤b)→∀x∈vs,NB base x
  | [],[],_,_,_=>fun x hx=>by simp at hx
  | a::zas,d::ds,fp,⟨f1,f2,e,o1,o2⟩,hb=>by
    subst e
    intro x hx
    rcases List.mem_cons.1 hx with rfl|hx
    · exact o1.nb fun b h=>hb b (by simp[h])
    · exact eO.nb o2 (fun b h=>hb b (by simp[h])) x hx
theorem Bf{base:Nat}{vs:List AV}(h:∀x∈vs,NB base x):NB base (jv vs):=by
  unfold jv
  split
  · exact h _ (by simp)
  · exact .tup _ h
theorem aV.Dj{h:AH}{base:Nat}:∀{zas:List AV} {ds:List CD} {fp:List Nat},aV h zas ds fp→(∀b∈fp,base≤b)→∀b∈fp,∀g cs,h[b]? = some (some (g,cs))→∀x∈cs,NB base x
  | [],[],_,o,_=>by cases o;intro b hb;simp at hb
  | a::zas,d::ds,fp,⟨f1,f2,e,o1,o2⟩,hh=>by
    subst e
    intro b hb
    rcases List.mem_append.1 hb with hb|hb
    · exact o1.Dj (fun b h=>hh b (by simp[h])) b hb
    · exact aV.Dj o2 (fun b h=>hh b (by simp[h])) b hb
theorem eO.Dj{h:AH}{base:Nat}:∀{vs:List AV} {rs:List RD} {fp:List Nat},eO h vs rs fp→(∀b∈fp,base≤b)→∀b∈fp,∀g cs,h[b]? = some (some (g,cs))→∀x∈cs,NB base x
  | [],[],_,o,_=>by cases o;intro b hb;simp at hb
  | a::zas,d::ds,fp,⟨f1,f2,e,o1,o2⟩,hh=>by
    subst e
    intro b hb
    rcases List.mem_append.1 hb with hb|hb
    · cases d with
      | c d=>exact bO.Dj o1 (fun b h=>hh b (by simp[h])) b hb
      | a cs=>obtain⟨as',_,o1⟩:=o1;exact aV.Dj o1 (fun b h=>hh b (by simp[h])) b hb
    · exact eO.Dj o2 (fun b h=>hh b (by simp[h])) b hb
theorem qJ.FL{h:AH}{base:Nat}{v:AV}{r:RD}{fp:List Nat}(o:qJ h v r fp)(hb:∀b∈fp,base≤b):ue base h v (r.av false):=by
  cases r with
  | c d=>exact(bO.view o).2 base hb
  | a cs=>
    obtain⟨zas,rfl,o⟩:=o
    refine .agg zas _ (by simp[o.len]) (fun i=>zas.getD i .any) (fun i y hy=>?_) (fun i y hy=>?_)
    · obtain⟨x,hx,_⟩:=o.FL hb i y hy;simp[List.getD_eq_getElem?_getD,hx]
    · obtain⟨x,hx,hf⟩:=o.FL hb i y hy;simpa[List.getD_eq_getElem?_getD,hx]using hf
theorem eO.FL{h:AH}{base:Nat}:∀{vs:List AV} {rs:List RD} {fp:List Nat},eO h vs rs fp→(∀b∈fp,base≤b)→vs.length=rs.length∧∀(i:Nat) (y:AV),(rs.map (RD.av false))[i]? = some y→∃x,vs[i]? = some x∧ue base h x y
  | [],[],_,_,_=>⟨rfl,fun i y hy=>by simp at hy⟩
  | a::zas,d::ds,fp,⟨f1,f2,e,o1,o2⟩,hb=>by
    subst e
    obtain⟨h1,h2⟩:=eO.FL o2 (fun b h=>hb b (by simp[h]))
    refine⟨by simp[h1],fun i y hy=>?_⟩
    cases i with
    | zero=>simp at hy;subst hy;exact⟨a,rfl,o1.FL fun b h=>hb b (by simp[h])⟩
    | succ i=>exact h2 i y (by simpa using hy)
theorem eO.W5{h:AH}{base:Nat}{vs:List AV}{rs:List RD}{fp:List Nat}(o:eO h vs rs fp)(hb:∀b∈fp,base≤b):ue base h (jv vs) (jv (rs.map (RD.av false))):=by
  obtain⟨h1,h2⟩:=o.FL hb
  match vs,rs,h1 with
  | [v],[r],_=>obtain⟨x,e,hf⟩:=h2 0 _ rfl;simp at e;subst e;exact hf
  | [],[],_=>exact .tup _ _ rfl (fun _=>.any) (fun i y hy=>by simp at hy) (fun i y hy=>by simp at hy)
  | v::v'::vs,r::r'::rs,h1=>
    refine .tup _ _ (by simpa using h1) (fun i=>(v::v'::vs).getD i .any) (fun i y hy=>?_) (fun i y hy=>?_)
    · obtain⟨x,hx,_⟩:=h2 i y hy;simp only[List.getD_eq_getElem?_getD,hx];rfl
    · obtain⟨x,hx,hf⟩:=h2 i y hy;simp only[List.getD_eq_getElem?_getD,hx];exact hf
def bc(h:AH)(rs:List RD)(v:AV)(h':AH):Prop:=
  ∃vs new fp,v=jv vs∧h'=h++new∧eO h' vs rs fp∧fp.Nodup∧(∀b∈fp,h.length≤b)∧∀b,h.length≤b→b<h'.length→b∉fp→h'[b]? = some none
theorem bc.Dj{h:AH}{rs:List RD}{vs:List AV}{new:AH}{fp:List Nat}(o:eO (h++new) vs rs fp)(hb:∀b∈fp,h.length≤b)(hd:∀b,h.length≤b→b<(h++new).length→b∉fp→(h++new)[b]? = some none):
    UI h.length new:=by
  intro b g cs hcs x hx
  have hlt:=aK hcs
  have e:(h++new)[h.length+b]? = some (some (g,cs)):=by rw[List.getElem?_append_right (by omega)];simpa using hcs
  by_cases hm:h.length+b∈fp
  · exact o.Dj hb _ hm g cs e x hx
  · have:=hd (h.length+b) (by omega) (by simp;omega) hm
    rw[e]at this
    cases this
section
variable {P:Program} {Θ:jL} {Γ:bG}
theorem T.prune{f:FuncId}{args:List AV}{h:AH}{Q K:AV→AH→Prop}(t:T P Γ f args h Q)(hq:∀v h',Q v h'→∃h'',h''.length=h'.length∧(∀(b:Nat) (x:Nat×List AV),h''[b]? = some (some x)→h'[b]? = some (some x))∧K v h''):T P Γ f args h K:=by
  refine⟨t.1,fun ρ w cargs m gk ra=>(t.2 ρ w cargs m gk ra).mono ?_⟩
  rintro e w' ⟨v,cv,ρ',h',rfl,r1,r2,ev,q⟩
  obtain⟨h'',hl,hs,hk⟩:=hq _ _ q
  refine⟨v,cv,ρ',h'',rfl,r1,⟨fun b g cs hb=>r2.hp b g cs (hs b _ hb),r2.lp,r2.len,r2.nod,fun b g cs b' g' cs' c o n o' n' e1 e2=>r2.hh b g cs b' g' cs' c o n o' n' (hs _ _ e1) (hs _ _ e2),fun b g cs c o n i e1=>r2.hl b g cs c o n i (hs _ _ e1),r2.im,r2.iml,
    fun β c arr b g cs o n e1 e2=>r2.imh β c arr b g cs o n e1 (hs _ _ e2),fun b g c o n e1=>?_⟩,⟨ev.le,ev.ext,ev.sz,ev.fr,fun b g cs c o n e1=>ev.own b g cs c o n (hs _ _ e1),ev.ownl,ev.imo,by rw[hl];exact ev.len,ev.os,ev.out⟩,hk⟩
  obtain⟨d1,d2,d3⟩:=r2.dom b g c o n e1
  exact⟨d1,by rw[hl];exact d2,fun g' cs e2=>d3 g' cs (hs _ _ e2)⟩
theorem T.fresh{f:FuncId}{args:List AV}{h:AH}{Q:AV→AH→Prop}{rs:List RD}(t:T P Γ f args h Q)
    (hq:∀v h',Q v h'→∃vs new fp,v=jv vs∧h'=h++new∧eO h' vs rs fp∧fp.Nodup∧∀b∈fp,h.length≤b):T P Γ f args h (bc h rs):=by
  refine t.prune fun v h' q=>?_
  obtain⟨vs,new,fp,rfl,rfl,o,nd,hb⟩:=hq v h' q
  let new':AH:=new.mapIdx fun i x=>if h.length+i∈fp then x else none
  have bA:∀b,(h++new')[b]? = if h.length≤b∧b<(h++new).length∧b∉fp then some none else (h++new)[b]?:=by
    intro b
    rcases Nat.lt_or_ge b h.length with hlt|hge
    · rw[List.getElem?_append_left hlt,List.getElem?_append_left hlt,if_neg (by omega)]
    · rw[List.getElem?_append_right hge,List.getElem?_append_right hge]
      simp only[new',List.getElem?_mapIdx]
      rw[show h.length+(b-h.length)=b by omega]
      rcases Nat.lt_or_ge (b-h.length) new.length with hl|hl
      · rw[List.getElem?_eq_getElem hl]
        by_cases hm:b∈fp
        · simp[hm]
        · simp only[hm,if_false,Option.map_some,not_false_eq_true,and_true]
          rw[if_pos ⟨hge,by simp;omega⟩]
      · rw[List.getElem?_eq_none hl]
        simp only[Option.map_none]
        rw[if_neg (by simp;omega)]
  refine⟨h++new',by simp[new'],fun b x e=>?_,vs,new',fp,rfl,rfl,o.frame fun b hm=>?_,nd,hb,fun b h1 h2 h3=>?_⟩
  · rw[bA]at e
    split at e
    · cases e
    · exact e
  · rw[bA,if_neg (by simp[hm])]
  · rw[bA,if_pos ⟨h1,by simp[new']at h2;simpa using h2,h3⟩]
theorem T.frozen{f:FuncId}{args:List AV}{h:AH}{rs:List RD}(t:T P Γ f args h (bc h rs)):T P Γ f args h fun v h'=>v=jv (rs.map (RD.av false))∧h'=h:=by
  refine t.freeze ?_
  rintro v h' ⟨vs,new,fp,rfl,rfl,o,nd,hb,hd⟩
  exact⟨h,new,_,rfl,rfl,fun b g cs hb=>.inl hb,o.W5 hb,rfl,rfl⟩
theorem aq.own{f:FuncId}{args args':List AV}{s:St}{rs:List RD}{K:AV→St→Prop}(ho:args.all bX=true)(hs:jS s.heap args args')
    (t:∀h,T P Γ f args' h (bc h rs)) (hk:∀v h',bc s.heap rs v h'→K v { s with heap:=h' }):aq P Γ f args s K:=by
  refine aq.snap ho hs (t _) ?_
  rintro v h' ⟨vs,new,fp,rfl,rfl,o,nd,hb,hd⟩
  have hlr:(List.replicate s.heap.length (none:Option (Nat×List AV))).length=s.heap.length:=by simp
  have same:∀b,s.heap.length≤b→(s.heap++new)[b]? = (List.replicate s.heap.length none++new)[b]?:=fun b hb=>by
    rw[List.getElem?_append_right hb,List.getElem?_append_right (by rw[hlr];exact hb),hlr]
  rw[hlr]at hb hd
  have o':eO (s.heap++new) vs rs fp:=o.frame fun b hm=>same b (hb b hm)
  have hd':∀b,s.heap.length≤b→b<(s.heap++new).length→b∉fp→(s.heap++new)[b]? = some none:=fun b h1 h2 h3=>by
    rw[same b h1];exact hd b h1 (by simp at h2 ⊢;omega) h3
  exact⟨new,rfl,Bf (o.nb hb),bc.Dj o' hb hd',hk _ _ ⟨vs,new,fp,rfl,rfl,o',nd,hb,hd'⟩⟩
theorem aq.jE{f:FuncId}{args args':List AV}{s:St}{V:AV}{K:AV→St→Prop}(ho:args.all bX=true)(hs:jS s.heap args args')
    (t:∀h,T P Γ f args' h fun v h'=>v=V∧h'=h) (hv:NB s.heap.length V) (hk:K V s):aq P Γ f args s K:=by
  refine aq.snap ho hs (t _) ?_
  rintro v h' ⟨rfl,rfl⟩
  exact⟨[],by simp,hv,.nil _,by simpa using hk⟩
theorem T.MV{f:FuncId}{pre post:List AV}{β:Bool}{sz:Nat}{h:AH}{Q:AV→AH→Prop}(t1:T P Γ f (pre++.nils::post) h Q)(t2:∀a c,T P Γ f (pre++.opq (.slice (some a) 0 c)::post) h Q):
    T P Γ f (pre++.vs β sz false []::post) h Q:=by
  refine⟨t1.1,fun ρ w cargs m gk ra=>?_⟩
  have hl:=ra.1
  have hi:=ra.2 pre.length _ (by rw[List.getElem?_append_right (Nat.le_refl _),Nat.sub_self];rfl)
  have repl:∀y,RV ρ [] y (cargs.getD pre.length default)→eB ρ [] (pre++y::post) cargs:=by
    intro y hy
    refine⟨by simpa using hl,fun i x hx=>?_⟩
    by_cases he:i=pre.length
    · subst he
      rw[List.getElem?_append_right (Nat.le_refl _),Nat.sub_self]at hx
      injection hx with hx
      subst hx
      exact hy
    · refine ra.2 i x ?_
      rcases Nat.lt_or_ge i pre.length with h1|h1
      · rw[List.getElem?_append_left h1]at hx ⊢;exact hx
      · rw[List.getElem?_append_right h1]at hx ⊢
        obtain⟨j,hj⟩:∃j,i-pre.length=j+1:=⟨i-pre.length-1,by omega⟩
        rw[hj]at hx ⊢
        exact hx
  generalize cargs.getD pre.length default=cv at hi repl
  cases hi with
  | vs _ _ _ _ _ c o cap' f h1 h2 h3 h4 r=>exact(t2 _ _).2 ρ w cargs m gk (repl _ (.opq _ _))
  | vs0 _ _ _ _ a cap' h2=>exact(t2 _ _).2 ρ w cargs m gk (repl _ (.opq _ _))
  | vsn=>exact t1.2 ρ w cargs m gk (repl _ (.nils _))
end
end Go.AM
namespace Go.AM
structure ae where
  kind:Int
  n:Int
  deriving DecidableEq,Inhabited
def ae.cd(x:ae):List CD:=[.i .i64 x.kind,.i .i64 x.n]
def ae.c(β:Bool)(x:ae):List AV:=[.int .i64 x.kind,.int .i64 x.n]
theorem ae.cr(β:Bool)(x:ae):x.cd.map (CD.av β)=x.c β:=by simp[ae.cd,ae.c,CD.dD,CD.hY,CD.gQ,CD.eG,Function.comp_def]
theorem ae.cF(β:Bool)(x:ae):(x.c β).all bk=true:=rfl
structure fc where
  vat:Int
  entity:Int
  seq:Int
  deriving DecidableEq,Inhabited
def fc.cd(x:fc):List CD:=[.i .i64 x.vat,.i .i64 x.entity,.i .i64 x.seq]
def fc.c(β:Bool)(x:fc):List AV:=[.int .i64 x.vat,.int .i64 x.entity,.int .i64 x.seq]
theorem fc.cr(β:Bool)(x:fc):x.cd.map (CD.av β)=x.c β:=by simp[fc.cd,fc.c,CD.dD,CD.hY,CD.gQ,CD.eG,Function.comp_def]
theorem fc.cF(β:Bool)(x:fc):(x.c β).all bk=true:=rfl
structure aA where
  target:Int
  name:ByteArray
  args:List ae
  result:Int
  tag:fc
  deriving DecidableEq,Inhabited
def aA.cd(x:aA):List CD:=[.i .i64 x.target,.s x.name,.sl 2 (x.args.map ae.cd),.i .i64 x.result,.i .i64 x.tag.vat,.i .i64 x.tag.entity,.i .i64 x.tag.seq]
def aA.c(β:Bool)(x:aA):List AV:=[.int .i64 x.target,.str x.name,.vs β 2 false (x.args.map (ae.c β)),.int .i64 x.result,.int .i64 x.tag.vat,.int .i64 x.tag.entity,.int .i64 x.tag.seq]
theorem aA.cr(β:Bool)(x:aA):x.cd.map (CD.av β)=x.c β:=by simp[aA.cd,aA.c,CD.dD,CD.hY,CD.gQ,CD.eG,Function.comp_def,ae.cr]
theorem aA.cF(β:Bool)(x:aA):(x.c β).all bk=true:=rfl
def aA.ok(N:Nat)(x:aA):Prop:=(x.name.size≤N)∧(x.args.length≤N)
theorem aA.ok.mono{N M:Nat}(hN:N≤M){x:aA}(h:x.ok N):x.ok M:=⟨Nat.le_trans h.1 hN,Nat.le_trans h.2 hN⟩
structure aH where
  peer:Int
  question:Int
  deriving DecidableEq,Inhabited
def aH.cd(x:aH):List CD:=[.i .i64 x.peer,.i .i64 x.question]
def aH.c(β:Bool)(x:aH):List AV:=[.int .i64 x.peer,.int .i64 x.question]
theorem aH.cr(β:Bool)(x:aH):x.cd.map (CD.av β)=x.c β:=by simp[aH.cd,aH.c,CD.dD,CD.hY,CD.gQ,CD.eG,Function.comp_def]
theorem aH.cF(β:Bool)(x:aH):(x.c β).all bk=true:=rfl
structure an where
  kind:Int
  script:Int
  slots:List ae
  state:Int
  value:ae
  queue:List aA
  askers:List aH
  peer:Int
  pos:Int
  count:Int
  sent:Int
  deriving DecidableEq,Inhabited
def an.cd(x:an):List CD:=[.i .i64 x.kind,.i .i64 x.script,.sl 2 (x.slots.map ae.cd),.i .i64 x.state,.i .i64 x.value.kind,.i .i64 x.value.n,.sl 7 (x.queue.map aA.cd),.sl 2 (x.askers.map aH.cd),.i .i64 x.peer,.i .i64 x.pos,.i .i64 x.count,.i .i64 x.sent]
def an.c(β:Bool)(x:an):List AV:=[.int .i64 x.kind,.int .i64 x.script,.vs β 2 false (x.slots.map (ae.c β)),.int .i64 x.state,.int .i64 x.value.kind,.int .i64 x.value.n,.vs β 7 false (x.queue.map (aA.c β)),.vs β 2 false (x.askers.map (aH.c β)),.int .i64 x.peer,.int .i64 x.pos,.int .i64 x.count,.int .i64 x.sent]
theorem an.cr(β:Bool)(x:an):x.cd.map (CD.av β)=x.c β:=by simp[an.cd,an.c,CD.dD,CD.hY,CD.gQ,CD.eG,Function.comp_def,aH.cr,aA.cr,ae.cr]
theorem an.cF(β:Bool)(x:an):(x.c β).all bk=true:=rfl
def an.ok(N:Nat)(x:an):Prop:=(x.slots.length≤N)∧(x.queue.length≤N)∧(∀y∈x.queue,y.ok N)∧(x.askers.length≤N)
theorem an.ok.mono{N M:Nat}(hN:N≤M){x:an}(h:x.ok N):x.ok M:=⟨Nat.le_trans h.1 hN,Nat.le_trans h.2.1 hN,fun y hy=>(h.2.2.1 y hy).mono hN,Nat.le_trans h.2.2.2 hN⟩
structure aD where
  pos:Int
  entity:Int
  count:Int
  deriving DecidableEq,Inhabited
def aD.cd(x:aD):List CD:=[.i .i64 x.pos,.i .i64 x.entity,.i .i64 x.count]
def aD.c(β:Bool)(x:aD):List AV:=[.int .i64 x.pos,.int .i64 x.entity,.int .i64 x.count]
theorem aD.cr(β:Bool)(x:aD):x.cd.map (CD.av β)=x.c β:=by simp[aD.cd,aD.c,CD.dD,CD.hY,CD.gQ,CD.eG,Function.comp_def]
theorem aD.cF(β:Bool)(x:aD):(x.c β).all bk=true:=rfl
structure ak where
  id:Int
  promise:Int
  deriving DecidableEq,Inhabited
def ak.cd(x:ak):List CD:=[.i .i64 x.id,.i .i64 x.promise]
def ak.c(β:Bool)(x:ak):List AV:=[.int .i64 x.id,.int .i64 x.promise]
theorem ak.cr(β:Bool)(x:ak):x.cd.map (CD.av β)=x.c β:=by simp[ak.cd,ak.c,CD.dD,CD.hY,CD.gQ,CD.eG,Function.comp_def]
theorem ak.cF(β:Bool)(x:ak):(x.c β).all bk=true:=rfl
structure aM where
  peer:Int
  up:Bool
  exports:List aD
  next:Int
  questions:List ak
  asked:Int
  answers:List ak
  deriving DecidableEq,Inhabited
def aM.cd(x:aM):List CD:=[.i .i64 x.peer,.b x.up,.sl 3 (x.exports.map aD.cd),.i .i64 x.next,.sl 2 (x.questions.map ak.cd),.i .i64 x.asked,.sl 2 (x.answers.map ak.cd)]
def aM.c(β:Bool)(x:aM):List AV:=[.int .i64 x.peer,.bool x.up,.vs β 3 false (x.exports.map (aD.c β)),.int .i64 x.next,.vs β 2 false (x.questions.map (ak.c β)),.int .i64 x.asked,.vs β 2 false (x.answers.map (ak.c β))]
theorem aM.cr(β:Bool)(x:aM):x.cd.map (CD.av β)=x.c β:=by simp[aM.cd,aM.c,CD.dD,CD.hY,CD.gQ,CD.eG,Function.comp_def,aD.cr,ak.cr]
theorem aM.cF(β:Bool)(x:aM):(x.c β).all bk=true:=rfl
def aM.ok(N:Nat)(x:aM):Prop:=(x.exports.length≤N)∧(x.questions.length≤N)∧(x.answers.length≤N)
theorem aM.ok.mono{N M:Nat}(hN:N≤M){x:aM}(h:x.ok N):x.ok M:=⟨Nat.le_trans h.1 hN,Nat.le_trans h.2.1 hN,Nat.le_trans h.2.2 hN⟩
structure aL where
  kind:Int
  n:Int
  deriving DecidableEq,Inhabited
def aL.cd(x:aL):List CD:=[.i .i64 x.kind,.i .i64 x.n]
def aL.c(β:Bool)(x:aL):List AV:=[.int .i64 x.kind,.int .i64 x.n]
theorem aL.cr(β:Bool)(x:aL):x.cd.map (CD.av β)=x.c β:=by simp[aL.cd,aL.c,CD.dD,CD.hY,CD.gQ,CD.eG,Function.comp_def]
theorem aL.cF(β:Bool)(x:aL):(x.c β).all bk=true:=rfl
structure aR where
  kind:Int
  pos:Int
  answer:Int
  question:Int
  name:ByteArray
  args:List aL
  value:aL
  count:Int
  tag:fc
  deriving DecidableEq,Inhabited
def aR.cd(x:aR):List CD:=[.i .i64 x.kind,.i .i64 x.pos,.i .i64 x.answer,.i .i64 x.question,.s x.name,.sl 2 (x.args.map aL.cd),.i .i64 x.value.kind,.i .i64 x.value.n,.i .i64 x.count,.i .i64 x.tag.vat,.i .i64 x.tag.entity,.i .i64 x.tag.seq]
def aR.c(β:Bool)(x:aR):List AV:=[.int .i64 x.kind,.int .i64 x.pos,.int .i64 x.answer,.int .i64 x.question,.str x.name,.vs β 2 false (x.args.map (aL.c β)),.int .i64 x.value.kind,.int .i64 x.value.n,.int .i64 x.count,.int .i64 x.tag.vat,.int .i64 x.tag.entity,.int .i64 x.tag.seq]
theorem aR.cr(β:Bool)(x:aR):x.cd.map (CD.av β)=x.c β:=by simp[aR.cd,aR.c,CD.dD,CD.hY,CD.gQ,CD.eG,Function.comp_def,aL.cr]
theorem aR.cF(β:Bool)(x:aR):(x.c β).all bk=true:=rfl
def aR.ok(N:Nat)(x:aR):Prop:=(x.name.size≤N)∧(x.args.length≤N)
theorem aR.ok.mono{N M:Nat}(hN:N≤M){x:aR}(h:x.ok N):x.ok M:=⟨Nat.le_trans h.1 hN,Nat.le_trans h.2 hN⟩
structure aj where
  to_:Int
  message:aR
  deriving DecidableEq,Inhabited
def aj.cd(x:aj):List CD:=[.i .i64 x.to_,.i .i64 x.message.kind,.i .i64 x.message.pos,.i .i64 x.message.answer,.i .i64 x.message.question,.s x.message.name,.sl 2 (x.message.args.map aL.cd),.i .i64 x.message.value.kind,.i .i64 x.message.value.n,.i .i64 x.message.count,.i .i64 x.message.tag.vat,.i .i64 x.message.tag.entity,.i .i64 x.message.tag.seq]
def aj.c(β:Bool)(x:aj):List AV:=[.int .i64 x.to_,.int .i64 x.message.kind,.int .i64 x.message.pos,.int .i64 x.message.answer,.int .i64 x.message.question,.str x.message.name,.vs β 2 false (x.message.args.map (aL.c β)),.int .i64 x.message.value.kind,.int .i64 x.message.value.n,.int .i64 x.message.count,.int .i64 x.message.tag.vat,.int .i64 x.message.tag.entity,.int .i64 x.message.tag.seq]
theorem aj.cr(β:Bool)(x:aj):x.cd.map (CD.av β)=x.c β:=by simp[aj.cd,aj.c,CD.dD,CD.hY,CD.gQ,CD.eG,Function.comp_def,aL.cr]
theorem aj.cF(β:Bool)(x:aj):(x.c β).all bk=true:=rfl
def aj.ok(N:Nat)(x:aj):Prop:=(x.message.ok N)
theorem aj.ok.mono{N M:Nat}(hN:N≤M){x:aj}(h:x.ok N):x.ok M:=aR.ok.mono hN h
structure aS where
  id:Int
  entities:List an
  loop:List aA
  links:List aM
  out:List aj
  deriving DecidableEq,Inhabited
def aS.cd(x:aS):List CD:=[.i .i64 x.id,.sl 12 (x.entities.map an.cd),.sl 7 (x.loop.map aA.cd),.sl 7 (x.links.map aM.cd),.sl 13 (x.out.map aj.cd)]
def aS.c(β:Bool)(x:aS):List AV:=[.int .i64 x.id,.vs β 12 false (x.entities.map (an.c β)),.vs β 7 false (x.loop.map (aA.c β)),.vs β 7 false (x.links.map (aM.c β)),.vs β 13 false (x.out.map (aj.c β))]
theorem aS.cr(β:Bool)(x:aS):x.cd.map (CD.av β)=x.c β:=by simp[aS.cd,aS.c,CD.dD,CD.hY,CD.gQ,CD.eG,Function.comp_def,an.cr,aM.cr,aj.cr,aA.cr]
theorem aS.cF(β:Bool)(x:aS):(x.c β).all bk=true:=rfl
def aS.ok(N:Nat)(x:aS):Prop:=(x.entities.length≤N)∧(∀y∈x.entities,y.ok N)∧(x.loop.length≤N)∧(∀y∈x.loop,y.ok N)∧(x.links.length≤N)∧(∀y∈x.links,y.ok N)∧(x.out.length≤N)∧(∀y∈x.out,y.ok N)
theorem aS.ok.mono{N M:Nat}(hN:N≤M){x:aS}(h:x.ok N):x.ok M:=⟨Nat.le_trans h.1 hN,fun y hy=>(h.2.1 y hy).mono hN,Nat.le_trans h.2.2.1 hN,fun y hy=>(h.2.2.2.1 y hy).mono hN,Nat.le_trans h.2.2.2.2.1 hN,fun y hy=>(h.2.2.2.2.2.1 y hy).mono hN,Nat.le_trans h.2.2.2.2.2.2.1 hN,fun y hy=>(h.2.2.2.2.2.2.2 y hy).mono hN⟩
structure aN where
  op:Int
  a:Int
  b:Int
  c_:Int
  d:Int
  name:ByteArray
  deriving DecidableEq,Inhabited
def aN.cd(x:aN):List CD:=[.i .i64 x.op,.i .i64 x.a,.i .i64 x.b,.i .i64 x.c_,.i .i64 x.d,.s x.name]
def aN.c(β:Bool)(x:aN):List AV:=[.int .i64 x.op,.int .i64 x.a,.int .i64 x.b,.int .i64 x.c_,.int .i64 x.d,.str x.name]
theorem aN.cr(β:Bool)(x:aN):x.cd.map (CD.av β)=x.c β:=by simp[aN.cd,aN.c,CD.dD,CD.hY,CD.gQ,CD.eG,Function.comp_def]
theorem aN.cF(β:Bool)(x:aN):(x.c β).all bk=true:=rfl
def aN.ok(N:Nat)(x:aN):Prop:=(x.name.size≤N)
theorem aN.ok.mono{N M:Nat}(hN:N≤M){x:aN}(h:x.ok N):x.ok M:=Nat.le_trans h hN
structure aJ where
  name:ByteArray
  code:List aN
  deriving DecidableEq,Inhabited
def aJ.cd(x:aJ):List CD:=[.s x.name,.sl 6 (x.code.map aN.cd)]
def aJ.c(β:Bool)(x:aJ):List AV:=[.str x.name,.vs β 6 false (x.code.map (aN.c β))]
theorem aJ.cr(β:Bool)(x:aJ):x.cd.map (CD.av β)=x.c β:=by simp[aJ.cd,aJ.c,CD.dD,CD.hY,CD.gQ,CD.eG,Function.comp_def,aN.cr]
theorem aJ.cF(β:Bool)(x:aJ):(x.c β).all bk=true:=rfl
def aJ.ok(N:Nat)(x:aJ):Prop:=(x.name.size≤N)∧(x.code.length≤N)∧(∀y∈x.code,y.ok N)
theorem aJ.ok.mono{N M:Nat}(hN:N≤M){x:aJ}(h:x.ok N):x.ok M:=⟨Nat.le_trans h.1 hN,Nat.le_trans h.2.1 hN,fun y hy=>(h.2.2 y hy).mono hN⟩
structure aB where
  name:ByteArray
  methods:List aJ
  deriving DecidableEq,Inhabited
def aB.cd(x:aB):List CD:=[.s x.name,.sl 2 (x.methods.map aJ.cd)]
def aB.c(β:Bool)(x:aB):List AV:=[.str x.name,.vs β 2 false (x.methods.map (aJ.c β))]
theorem aB.cr(β:Bool)(x:aB):x.cd.map (CD.av β)=x.c β:=by simp[aB.cd,aB.c,CD.dD,CD.hY,CD.gQ,CD.eG,Function.comp_def,aJ.cr]
theorem aB.cF(β:Bool)(x:aB):(x.c β).all bk=true:=rfl
def aB.ok(N:Nat)(x:aB):Prop:=(x.name.size≤N)∧(x.methods.length≤N)∧(∀y∈x.methods,y.ok N)
theorem aB.ok.mono{N M:Nat}(hN:N≤M){x:aB}(h:x.ok N):x.ok M:=⟨Nat.le_trans h.1 hN,Nat.le_trans h.2.1 hN,fun y hy=>(h.2.2 y hy).mono hN⟩
end Go.AM
namespace Go.AM
section
variable {P:Program} {Θ:jL} {Γ:bG}
theorem bH{α:Type}(β:Bool)(sz:Nat)(ex:Bool)(l:List α)(ce:α→List AV):fu false (.vs β sz ex (l.map ce))=some (.int .i64 l.length):=by simp[fu,nX]
theorem bW{α:Type}{β:Bool}{sz:Nat}{ex:Bool}{l:List α}{ce:α→List AV}{k:Nat}(hk:k<l.length):cm sz (.vs β sz ex (l.map ce)) (k:Int)=some (.ip β (ce l[k])):=by
  simp[cm,hk]
theorem me{cs:List AV}{n:Nat}(h:cs.length=n):sub cs 0 n=some cs:=by subst h;simp[sub]
theorem bO.cell{h:AH}{a:AV}{d:CD}{fp:List Nat}(o:bO h a d fp):cellsOf a=some [a]∧Go.AM.b8 a=true∧Go.AM.bk a=true∧bX a=true:=by
  cases o<;>exact⟨rfl,rfl,rfl,rfl⟩
theorem bc.one{h h':AH}{d:CD}{v:AV}(f:bc h [.c d] v h'):∃new fp,h'=h++new∧bO h' v d fp∧fp.Nodup∧∀b∈fp,h.length≤b:=by
  obtain⟨vs,new,fp,rfl,rfl,o,nd,hb,_⟩:=f
  match vs,o with
  | [v],⟨f1,f2,e,o1,o2⟩=>
    have:f2=[]:=o2
    subst this
    simp only[List.append_nil]at e
    subst e
    exact⟨new,_,rfl,o1,nd,hb⟩
theorem bc.KQ{h h':AH}{cs:List CD}{v:AV}(f:bc h [.a cs] v h'):∃zas new fp,v=.agg zas∧h'=h++new∧aV h' zas cs fp∧fp.Nodup∧∀b∈fp,h.length≤b:=by
  obtain⟨vs,new,fp,rfl,rfl,o,nd,hb,_⟩:=f
  match vs,o with
  | [v],⟨f1,f2,e,o1,o2⟩=>
    have:f2=[]:=o2
    subst this
    simp only[List.append_nil]at e
    subst e
    obtain⟨zas,rfl,o1⟩:=o1
    exact⟨zas,new,_,rfl,rfl,o1,nd,hb⟩
theorem T.iI{f:FuncId}{args:List AV}{h:AH}{d:CD}(t:T P Γ f args h fun v h'=>∃new fp,h'=h++new∧bO h' v d fp∧fp.Nodup∧∀b∈fp,h.length≤b):T P Γ f args h (bc h [.c d]):=
  t.fresh fun v h' ⟨new,fp,e,o,nd,hb⟩=>⟨[v],new,fp,rfl,e,⟨fp,[],by simp,o,rfl⟩,nd,hb⟩
theorem T.ez{f:FuncId}{args:List AV}{h:AH}{cs:List CD}(t:T P Γ f args h fun v h'=>∃zas new fp,v=.agg zas∧h'=h++new∧aV h' zas cs fp∧fp.Nodup∧∀b∈fp,h.length≤b):T P Γ f args h (bc h [.a cs]):=
  t.fresh fun v h' ⟨zas,new,fp,e,e',o,nd,hb⟩=>⟨[v],new,fp,rfl,e',⟨fp,[],by simp,⟨zas,e,o⟩,rfl⟩,nd,hb⟩
theorem T.J4{f:FuncId}{args:List AV}{h:AH}{d:CD}(t:T P Γ f args h (bc h [.c d])):T P Γ f args h fun v h'=>v=d.av false∧h'=h:=t.frozen
theorem T.WZ{f:FuncId}{args:List AV}{h:AH}{cs:List CD}(t:T P Γ f args h (bc h [.a cs])):T P Γ f args h fun v h'=>v=.agg (cs.map (CD.av false))∧h'=h:=t.frozen
theorem aV.nil{h:AH}:aV h [] [] []:=rfl
theorem aV.i{h:AH}{k:IntKind}{n:Int}{zas:List AV}{ds:List CD}{fp:List Nat}(o:aV h zas ds fp):aV h (.int k n::zas) (.i k n::ds) fp:=⟨[],fp,rfl,.i _ _,o⟩
theorem aV.b{h:AH}{x:Bool}{zas:List AV}{ds:List CD}{fp:List Nat}(o:aV h zas ds fp):aV h (.bool x::zas) (.b x::ds) fp:=⟨[],fp,rfl,.b _,o⟩
theorem aV.s{h:AH}{x:ByteArray}{zas:List AV}{ds:List CD}{fp:List Nat}(o:aV h zas ds fp):aV h (.str x::zas) (.s x::ds) fp:=⟨[],fp,rfl,.s _,o⟩
theorem aV.o{h:AH}{a:AV}{d:CD}{zas:List AV}{ds:List CD}{f1 f2:List Nat}(o1:bO h a d f1)(o:aV h zas ds f2):aV h (a::zas) (d::ds) (f1++f2):=⟨f1,f2,rfl,o1,o⟩
theorem bR{f1 f2:List Nat}{n:Nat}(h1:f1.Nodup)(h2:f2.Nodup)(l1:∀b∈f1,b<n)(l2:∀b∈f2,n≤b):(f1++f2).Nodup:=by
  rw[List.nodup_append]
  exact⟨h1,h2,fun a ha b hb=>by have:=l1 a ha;have:=l2 b hb;omega⟩
theorem lD(h t:AH)(x:Nat×List AV):bA (h++some x::t) h.length=some x:=by simp[bA]
theorem Dl(h t:AH)(x y:Option (Nat×List AV)):(h++x::t).set h.length y=h++y::t:=by simp
theorem xu{h t:AH}{x y:Option (Nat×List AV)}{b:Nat}(hb:b≠h.length):(h++x::t)[b]? = (h++y::t)[b]?:=by
  rcases Nat.lt_or_ge b h.length with h1|h1
  · rw[List.getElem?_append_left h1,List.getElem?_append_left h1]
  · rw[List.getElem?_append_right h1,List.getElem?_append_right h1]
    obtain⟨j,hj⟩:∃j,b-h.length=j+1:=⟨b-h.length-1,by omega⟩
    rw[hj];rfl
theorem rZ{e:List AV}{l:List (List AV)}{h t:AH}{g:Nat}{cs vs:List AV}{off:Nat}(h1:off+vs.length≤cs.length)(h2:vs.all bk=true):
    (St.mk e l (h++some (g,cs)::t)).store (.gp h.length g off) vs=some ⟨e,l,h++some (g,over cs off vs)::t⟩:=by
  simp only[St.store,lD,Option.bind_some,if_true,if_pos h1,h2,Dl]
theorem cY{α β:Type}{l:List α}{f:α→List β}{sz:Nat}(h:∀x∈l,(f x).length=sz):((l.map f).flatten).length=l.length*sz:=by
  induction l with
  | nil=>simp
  | cons x l ih=>simp[ih (fun y hy=>h y (by simp[hy])),h x (by simp),Nat.succ_mul,Nat.add_comm]
theorem gR{α:Type}(da:cX P Θ)(hm:P.follows .mixedOrders=true){F f:FuncId}{szs sz bytes:Nat}{z:List AV}(hE:Di P Θ Γ F (Nr szs sz bytes z f) [.t 2] [u,u,u,u,u,u,u,u,u,u,u,u,u,u,u,u,u,u,u,u,u,u])
    {β:Bool} {l:List α} {ce:α→List AV} {cd:α→List CD} (hb:l.length*(bytes+sz+1)≤aX) (hz:z.length=sz) (hz':z.all bk=true)
    (hx:∀x∈l,(ce x).length=szs∧(ce x).all bk=true) (hd:∀x∈l,(cd x).length=sz) {h:AH}
    (hf:∀x∈l,∀H,T P Γ f [.agg (ce x)] H (bc H [.a (cd x)])):
    T P Γ F [.vs β szs false (l.map ce)] h (bc h [.c (.sl sz (l.map cd))]):=by
  have L0:=bH β szs false l ce
  generalize e0:AV.vs β szs false (l.map ce)=a0 at *
  have hml:l.length≤aX:=Nat.le_trans (Nat.le_mul_of_pos_right _ (by omega)) hb
  have hmx:aX=1099511627776:=rfl
  refine T.iI (hE (au da hm [] _ _ _ ?_))
  unfold Nr
  simp only[EV,EL,L0]
  rw[K1 _ _ _ _ _ _ hb hz']
  simp only[EV,EL]
  have hzl:∀n,(List.replicate n z).flatten.length=n*sz:=fun n=>by
    have:=BY (xs:=List.replicate n z) (sz:=sz) (fun l hl=>by rw[(List.mem_replicate.1 hl).2];exact hz)
    simpa using this
  refine bD da hm [] (fun x:Nat×List AV×AH×List Nat=>x.1≤l.length∧aV (h++some (0,x.2.1++(List.replicate (l.length-x.1) z).flatten)::x.2.2.1) x.2.1 ((l.take x.1).map cd).flatten x.2.2.2∧x.2.2.2.Nodup∧∀b∈x.2.2.2,h.length<b) (fun x=>l.length-x.1)
    (fun x=>⟨[a0,.any,.any,.gs h.length 0 0 l.length l.length sz true,.int .i64 x.1,.any,.any,.any,.any,.any,.any,.any,.any,.any,.any,.any,.any,.any,.any,.any,.any,.any,.any],[],h++some (0,x.2.1++(List.replicate (l.length-x.1) z).flatten)::x.2.2.1⟩)
    (0,[],[],[]) ⟨by simp,by simp[aV],by simp,by simp⟩ ⟨by simp[cj,ck],rfl,by simp⟩ ?_
  rintro⟨k,zas,t,fp⟩ ⟨hk,ho,nd,hfp⟩
  simp only at hk ho nd hfp
  simp only[EV,EL,L0]
  refine ba (fun hlt=>?_) (fun hge=>?_)
  · have hlt:k<l.length:=by simpa using hlt
    have i0:=bW (β:=β) (sz:=szs) (ex:=false) (ce:=ce) hlt
    rw[e0]at i0
    have hxk:=hx _ (List.getElem_mem hlt)
    have hdk:=hd _ (List.getElem_mem hlt)
    have hel:=me hxk.1
    simp only[EV,EL,i0,hel,Option.bind_some]
    refine aq.ref (by simp only[EO,hxk.2]) (hf _ (List.getElem_mem hlt) _) ?_
    intro v h' hv
    obtain⟨bs,new,fq,rfl,rfl,o2,nd2,hb2⟩:=hv.KQ
    have hb2:∀b∈fq,(h++some (0,zas++(List.replicate (l.length-k) z).flatten)::t).length≤b:=hb2
    have hbl:bs.length=sz:=by rw[o2.len,hdk]
    have hal:zas.length=k*sz:=by
      rw[ho.len,cY (sz:=sz) (fun x hx=>hd x (List.mem_of_mem_take hx)),List.length_take,Nat.min_eq_left hk]
    have hrep:l.length-k=(l.length-(k+1))+1:=by omega
    simp only[EV,EL,fo hlt]
    rw[Wb _ _ _ _ hbl,Nat.zero_add,List.append_assoc,List.cons_append,rZ (by rw[List.length_append,hzl,hal,hbl,←Nat.succ_mul,←Nat.add_mul];exact Nat.mul_le_mul_right _ (by omega)) o2.bk]
    simp only[EV,EL]
    have hov:over (zas++(List.replicate (l.length-k) z).flatten) (k*sz) bs=(zas++bs)++(List.replicate (l.length-(k+1)) z).flatten:=by
      rw[hrep,List.replicate_succ,List.flatten_cons,←hal]
      simp only[over]
      rw[List.take_append_of_le_length (Nat.le_refl _),List.take_length]
      congr 1
      rw[List.drop_append,List.drop_of_length_le (by omega),List.nil_append,show zas.length+bs.length-zas.length=z.length by omega]
      simp
    rw[hov]
    have hlen0:(h++some (0,zas++(List.replicate (l.length-k) z).flatten)::t).length=h.length+1+t.length:=by simp;omega
    refine⟨(k+1,zas++bs,t++new,fp++fq),⟨hlt,?_,?_,?_⟩,by simp only;omega,⟨?_,rfl,rfl⟩⟩
    · simp only
      rw[List.take_succ_eq_append_getElem hlt,List.map_append,List.flatten_append]
      simp only[List.map_cons,List.map_nil,List.flatten_cons,List.flatten_nil,List.append_nil]
      refine aV.append (ho.frame fun b hb=>?_) (o2.frame fun b hb=>?_)
      · have h1:=hfp b hb
        have h2:=ho.lt b hb
        rw[xu (y:=some (0,zas++(List.replicate (l.length-k) z).flatten)) (by omega),←List.cons_append,←List.append_assoc,List.getElem?_append_left h2]
      · have h1:=hb2 b hb
        rw[xu (y:=some (0,zas++(List.replicate (l.length-k) z).flatten)) (by omega),List.append_assoc,List.cons_append]
    · exact bR nd nd2 (fun b hb=>ho.lt b hb) hb2
    · intro b hb
      rcases List.mem_append.1 hb with h1|h1
      · exact hfp b h1
      · have:=hb2 b h1;omega
    · rw[wN (by omega)]
      simp[cj,ck]
  · have hge:k=l.length:=by simp at hge;omega
    subst hge
    simp only[EV,EL]
    simp only[Nat.sub_self,List.replicate_zero,List.flatten_nil,List.append_nil,List.take_length]at ho ⊢
    refine⟨rfl,some (0,zas)::t,h.length::fp,rfl,?_,?_,?_⟩
    · have:=bO.sl_mk (xs:=l.map cd) (sz:=sz) (b:=h.length) (g:=0) (cap:=l.length) (ex:=true) (tail:=[]) (zas:=zas) (h:=h++some (0,zas)::t) (by rw[List.append_nil];exact lD _ _ _)
        (fun m hm=>by obtain⟨x,hx,rfl⟩:=List.mem_map.1 hm;exact hd x hx) (by simp) (by simp) ho
      simpa using this
    · exact List.nodup_cons.2 ⟨fun hm=>by have:=hfp _ hm;omega,nd⟩
    · intro b hb
      rcases List.mem_cons.1 hb with h1|h1
      · omega
      · have:=hfp b h1;omega
theorem lZ{α:Type}[DecidableEq α](da:cX P Θ)(hm:P.follows .mixedOrders=true){F f:FuncId}{sz:Nat}(hE:vA P Θ Γ F (Rk sz f) [.t 4] [u,u,u,u,u,u,u,u,u,u,u,u,u,u,u,u,u,u,u,u,u,u,u,u,u])
    {β β':Bool} {l m:List α} {c c':α→List AV} (hb:l.length<1099511627776) (hx:∀x,(c x).length=sz∧(c x).all bk=true) (hy:∀x,(c' x).length=sz∧(c' x).all bk=true) {h:AH}
    (hf:∀x∈l,∀y∈m,T P Γ f [.agg (c x),.agg (c' y)] h fun v h'=>v=.bool (decide (x=y))∧h'=h):
    T P Γ F [.vs β sz false (l.map c),.vs β' sz false (m.map c')] h fun v h'=>v=.bool (decide (l=m))∧h'=h:=by
  have L0:=bH β sz false l c
  have L1:=bH β' sz false m c'
  generalize e0:AV.vs β sz false (l.map c)=a0 at *
  generalize e1:AV.vs β' sz false (m.map c')=a1 at *
  refine hE (au da hm [] _ _ _ ?_)
  unfold Rk
  simp only[EV,EL,L0,L1]
  refine ba (fun hne=>?_) (fun heq=>?_)
  · simp only[EV,EL]
    refine⟨rfl,?_⟩
    have hne:l.length≠m.length:=by intro e;rw[e]at hne;simp at hne
    rw[decide_eq_false (fun e=>hne (by rw[e]))]
  have hl:l.length=m.length:=by simp at heq;omega
  simp only[EV,EL]
  refine bD da hm [] (fun k:Nat=>k≤l.length∧∀(i:Nat) (h1:i<l.length) (h2:i<m.length),i<k→l[i]=m[i]) (fun k=>l.length-k)
    (fun k=>⟨[a0,a1,.any,.any,.any,.int .i64 k,.any,.any,.any,.any,.any,.any,.any,.any,.any,.any,.any,.any,.any,.any,.any,.any,.any,.any,.any,.any,.any],[],h⟩) 0 ⟨by omega,fun i _ _ h=>by omega⟩ ⟨by simp[cj,ck],rfl,rfl⟩ ?_
  rintro k ⟨hk,ht⟩
  simp only[EV,EL,L0]
  refine ba (fun hlt=>?_) (fun hge=>?_)
  · have hlt:k<l.length:=by simpa using hlt
    have hlt':k<m.length:=by omega
    have i0:=bW (β:=β) (sz:=sz) (ex:=false) (ce:=c) hlt
    have i1:=bW (β:=β') (sz:=sz) (ex:=false) (ce:=c') hlt'
    rw[e0]at i0
    rw[e1]at i1
    have l0:=me (hx l[k]).1
    have l1:=me (hy m[k]).1
    simp only[EV,EL,SX,i0,i1,l0,l1,Option.bind_some]
    refine aq.val (by simp only[EO,(hx l[k]).2,(hy m[k]).2]) (hf _ (List.getElem_mem hlt) _ (List.getElem_mem hlt')) ?_
    simp only[EV,EL]
    by_cases hp:l[k]=m[k]
    · simp only[EV,EL,hp,decide_true,Bool.not_true]
      refine⟨k+1,⟨hlt,fun i g1 g2 hik=>?_⟩,by omega,⟨?_,rfl,rfl⟩⟩
      · rcases Nat.lt_or_ge i k with g|g
        · exact ht i g1 g2 g
        · have:i=k:=by omega
          subst this;exact hp
      · rw[wN (by omega)]
        simp[cj,ck]
    · simp only[EV,EL,decide_eq_false hp,Bool.not_false]
      refine⟨rfl,?_⟩
      rw[decide_eq_false (fun e=>hp (by subst e;rfl))]
  · have hge:k=l.length:=by simp at hge;omega
    simp only[EV,EL]
    refine⟨rfl,?_⟩
    rw[decide_eq_true (List.ext_getElem hl fun i g1 g2=>ht i g1 g2 (by omega))]
def uN{α:Type}(f:α→Int→Int):List α→Int→Int
  | [],left=>left
  | x::r,left=>if f x left<0 then -1 else uN f r (f x left)
def lx{α:Type}(l:List α)(left:Int):Int:=if left-l.length<0 then -1 else left-l.length
def lv{α:Type}(f:α→Int→Int)(l:List α)(left:Int):Int:=if left-l.length<0 then -1 else uN f l (left-l.length)
theorem fJ{α:Type}{l:List α}{left:Int}(h:0≤lx l left):(l.length:Int)≤left∧lx l left≤left:=by
  unfold lx at h ⊢;split at h<;>omega
theorem zk{α:Type}{f:α→Int→Int}{Q:α→Prop}{B:Int}(hf:∀x left,0≤left→left≤B→0≤f x left→Q x∧f x left≤left):∀{l:List α} {left:Int},0≤left→left≤B→0≤uN f l left→(∀x∈l,Q x)∧uN f l left≤left
  | [],left,_,_,_=>⟨by simp,by simp[uN]⟩
  | x::r,left,h0,h1,h2=>by
    simp only[uN]at h2 ⊢
    split at h2
    · omega
    · rename_i hn
      rw[if_neg hn]
      obtain⟨q1,q2⟩:=hf x left h0 h1 (by omega)
      obtain⟨q3,q4⟩:=zk hf (l:=r) (by omega) (by omega) h2
      exact⟨fun y hy=>by rcases List.mem_cons.1 hy with rfl|hy;exact q1;exact q3 y hy,by omega⟩
theorem gF{α:Type}{f:α→Int→Int}{Q:α→Prop}{B:Int}(hf:∀x left,0≤left→left≤B→0≤f x left→Q x∧f x left≤left){l:List α}{left:Int}(h0:0≤left)(h1:left≤B)(h2:0≤lv f l left):
    ((l.length:Int)≤left∧∀x∈l,Q x)∧lv f l left≤left:=by
  unfold lv at h2 ⊢
  split at h2
  · omega
  · rename_i hn
    rw[if_neg hn]
    obtain⟨q1,q2⟩:=zk hf (l:=l) (left:=left-l.length) (by omega) (by omega) h2
    exact⟨⟨by omega,q1⟩,by omega⟩
def NC:C:=.seq (.reg [⟨(some 4),none,.mov (.c (.int .i64 0))⟩]) (.seq (.reg [⟨(some 5),none,.mov (.t 1)⟩,
  ⟨(some 6),none,.mov (.t 0)⟩,
  ⟨(some 7),none,.len false (.t 6)⟩,
  ⟨(some 8),none,.bin .sub (.num) (.t 5) (.t 7)⟩,
  ⟨(some 1),none,.mov (.t 8)⟩]) (.seq (.seq (.reg [⟨(some 9),none,.mov (.t 1)⟩,
  ⟨(some 10),none,.bin .lss (.num) (.t 9) (.c (.int .i64 0))⟩]) (.cond (.t 10) (.seq (.reg [⟨(some 4),none,.mov (.c (.int .i64 (-1)))⟩]) (.ret)) (.skip))) (.seq (.reg [⟨(some 11),none,.mov (.t 1)⟩,
  ⟨(some 4),none,.mov (.t 11)⟩]) (.ret))))
theorem vN{α:Type}(da:cX P Θ)(hm:P.follows .mixedOrders=true){F:FuncId}(hE:vA P Θ Γ F NC [.t 4] [u,u,u,u,u,u,u,u,u,u])
    {β:Bool} {sz:Nat} {l:List α} {c:α→List AV} {left:Int} (h0:0≤left) (h1:left≤1048576) (hb:l.length≤maxLen) {h:AH}:
    T P Γ F [.vs β sz false (l.map c),.int .i64 left] h fun v h'=>v=.int .i64 (lx l left)∧h'=h:=by
  have L0:=bH β sz false l c
  generalize e0:AV.vs β sz false (l.map c)=a0 at *
  have hml:maxLen≤9223372036854775807:=by decide
  refine hE (au da hm [] _ _ _ ?_)
  unfold NC
  simp only[EV,EL,L0]
  rw[aI (by omega) (by omega)]
  refine ba (fun hlt=>?_) (fun hge=>?_)
  · simp only[EV,EL]
    simp at hlt
    exact⟨rfl,by rw[lx,if_pos (by omega)]⟩
  · simp only[EV,EL]
    simp at hge
    exact⟨rfl,by rw[lx,if_neg (by omega)]⟩
def Mz(sz:Nat)(f:FuncId):C:=.seq (.reg [⟨(some 4),none,.mov (.c (.int .i64 0))⟩]) (.seq (.reg [⟨(some 6),none,.mov (.t 1)⟩,
  ⟨(some 7),none,.mov (.t 0)⟩,
  ⟨(some 8),none,.len false (.t 7)⟩,
  ⟨(some 9),none,.bin .sub (.num) (.t 6) (.t 8)⟩,
  ⟨(some 1),none,.mov (.t 9)⟩]) (.seq (.seq (.reg [⟨(some 10),none,.mov (.t 1)⟩,
  ⟨(some 11),none,.bin .lss (.num) (.t 10) (.c (.int .i64 0))⟩]) (.cond (.t 11) (.seq (.reg [⟨(some 4),none,.mov (.c (.int .i64 (-1)))⟩]) (.ret)) (.skip))) (.seq (.seq (.reg [⟨(some 5),none,.mov (.c (.int .i64 0))⟩]) (.block 0 (.loop (.seq (.seq (.reg [⟨(some 12),none,.mov (.t 5)⟩,
  ⟨(some 13),none,.mov (.t 0)⟩,
  ⟨(some 14),none,.len false (.t 13)⟩,
  ⟨(some 15),none,.bin .lss (.num) (.t 12) (.t 14)⟩]) (.cond (.t 15) (.skip) (.exit 0))) (.seq (.block 1 (.seq (.reg [⟨(some 18),none,.mov (.t 0)⟩,
  ⟨(some 19),none,.mov (.t 5)⟩,
  ⟨(some 20),none,.idxs sz (.t 18) (.t 19)⟩,
  ⟨(some 21),none,.load sz true (.t 20)⟩,
  ⟨(some 22),none,.mov (.t 1)⟩,
  ⟨(some 23),none,.call (.c (.fn f [] [])) [.t 21,.t 22]⟩,
  ⟨(some 1),none,.mov (.t 23)⟩]) (.seq (.reg [⟨(some 24),none,.mov (.t 1)⟩,
  ⟨(some 25),none,.bin .lss (.num) (.t 24) (.c (.int .i64 0))⟩]) (.cond (.t 25) (.seq (.reg [⟨(some 4),none,.mov (.c (.int .i64 (-1)))⟩]) (.ret)) (.skip))))) (.reg [⟨(some 16),none,.mov (.t 5)⟩,
  ⟨(some 17),none,.bin .add (.num) (.t 16) (.c (.int .i64 1))⟩,
  ⟨(some 5),none,.mov (.t 17)⟩])))))) (.seq (.reg [⟨(some 26),none,.mov (.t 1)⟩,
  ⟨(some 4),none,.mov (.t 26)⟩]) (.ret)))))
theorem yK{α:Type}(da:cX P Θ)(hm:P.follows .mixedOrders=true){F f:FuncId}{sz:Nat}(hE:vA P Θ Γ F (Mz sz f) [.t 4] [u,u,u,u,u,u,u,u,u,u,u,u,u,u,u,u,u,u,u,u,u,u,u,u,u])
    {β:Bool} {l:List α} {c:α→List AV} {g:α→Int→Int} {left:Int} (h0:0≤left) (h1:left≤1048576) (hb:l.length≤maxLen) (hx:∀x,(c x).length=sz∧(c x).all bk=true)
    (hg:∀x left,0≤left→left≤1048576→0≤g x left→g x left≤left) {h:AH}
    (hf:∀x∈l,∀left,0≤left→left≤1048576→T P Γ f [.agg (c x),.int .i64 left] h fun v h'=>v=.int .i64 (g x left)∧h'=h):
    T P Γ F [.vs β sz false (l.map c),.int .i64 left] h fun v h'=>v=.int .i64 (lv g l left)∧h'=h:=by
  have L0:=bH β sz false l c
  generalize e0:AV.vs β sz false (l.map c)=a0 at *
  have hml:maxLen≤9223372036854775807:=by decide
  refine hE (au da hm [] _ _ _ ?_)
  unfold Mz
  simp only[EV,EL,L0]
  rw[aI (by omega) (by omega)]
  refine ba (fun hlt=>?_) (fun hge=>?_)
  · simp only[EV,EL]
    simp at hlt
    exact⟨rfl,by rw[lv,if_pos (by omega)]⟩
  simp at hge
  simp only[EV,EL]
  refine bD da hm [] (fun x:Nat×Int=>x.1≤l.length∧0≤x.2∧x.2≤1048576∧lv g l left=uN g (l.drop x.1) x.2) (fun x=>l.length-x.1)
    (fun x=>⟨[a0,.int .i64 x.2,.any,.any,.any,.int .i64 x.1,.any,.any,.any,.any,.any,.any,.any,.any,.any,.any,.any,.any,.any,.any,.any,.any,.any,.any,.any,.any,.any],[],h⟩) (0,left-l.length) ⟨by simp,by simp only;omega,by simp only;omega,by simp only[List.drop_zero];rw[lv,if_neg (by omega)]⟩ ⟨by simp[cj,ck],rfl,rfl⟩ ?_
  rintro⟨k,r⟩ ⟨hk,hr0,hr1,hI⟩
  simp only at hk hr0 hr1 hI
  simp only[EV,EL,L0]
  refine ba (fun hlt=>?_) (fun hge=>?_)
  · have hlt:k<l.length:=by simpa using hlt
    have i0:=bW (β:=β) (sz:=sz) (ex:=false) (ce:=c) hlt
    rw[e0]at i0
    have l0:=me (hx l[k]).1
    rw[List.drop_eq_getElem_cons hlt,uN]at hI
    simp only[EV,EL,i0,l0,Option.bind_some]
    refine aq.val (by simp only[EO,(hx l[k]).2]) (hf _ (List.getElem_mem hlt) _ hr0 hr1) ?_
    simp only[EV,EL]
    refine ba (fun hn=>?_) (fun hp=>?_)
    · simp only[EV,EL]
      simp at hn
      exact⟨rfl,by rw[hI,if_pos hn]⟩
    · simp at hp
      rw[if_neg (by omega)]at hI
      simp only[EV,EL]
      have:=hg l[k] r hr0 hr1 hp
      refine⟨(k+1,g l[k] r),⟨hlt,hp,by simp only;omega,hI⟩,by simp only;omega,⟨?_,rfl,rfl⟩⟩
      rw[wN (by omega)]
      simp[cj,ck]
  · have hge:k=l.length:=by simp at hge;omega
    simp only[EV,EL]
    rw[hge,List.drop_length,uN]at hI
    exact⟨rfl,by rw[hI]⟩
end
end Go.AM
namespace Go.AM
section
variable {P:Program} {Θ:jL} {Γ:bG}
def CD.flat:CD→Bool|.sl _ _=>false|_=>true
theorem CD.pX{h:AH}{d:CD}(hd:d.flat=true)(β:Bool):bO h (d.av β) d []:=by
  cases d<;>first|(simp[CD.flat]at hd;done)|(simp only[CD.av];constructor)
theorem kg{h:AH}(β:Bool):∀{cs:List CD},cs.all CD.flat=true→aV h (cs.map (CD.av β)) cs []
  | [],_=>rfl
  | d::r,hc=>by
    simp only[List.all_cons,Bool.and_eq_true]at hc
    exact⟨[],[],rfl,CD.pX hc.1 β,kg β hc.2⟩
theorem T.flat{f:FuncId}{args:List AV}{h:AH}{x:List AV}(t:T P Γ f args h fun v h'=>v=.agg x∧h'=h){cs:List CD}(hc:cs.all CD.flat=true)(hx:x=cs.map (CD.av false)):T P Γ f args h (bc h [.a cs]):=by
  refine T.ez (t.mono ?_)
  rintro v h' ⟨rfl,rfl⟩
  exact⟨_,[],[],rfl,by simp,by rw[hx];exact kg false hc,by simp,by simp⟩
theorem bP(s:ByteArray):fu true (.str s)=some (.int .i64 s.size):=rfl
theorem ay(a b:Int):(a != b) = !decide (a=b):=by by_cases h:a=b<;>simp[h]
theorem aQ(a b:Bool):(a == b)=decide (a=b):=by cases a<;>cases b<;>rfl
theorem v7(bs:ByteArray):∀(n i:Nat) (r:List UInt8),bs.size-i=n→ByteArray.toList.loop bs i r=r.reverse++bs.data.toList.drop i:=by
  intro n
  induction n with
  | zero=>
    intro i r h
    unfold ByteArray.toList.loop
    have hs:bs.data.toList.length=bs.size:=rfl
    rw[if_neg (by omega),List.drop_of_length_le (by omega),List.append_nil]
  | succ n ih=>
    intro i r h
    have hs:bs.data.toList.length=bs.size:=rfl
    unfold ByteArray.toList.loop
    rw[if_pos (by omega),ih (i+1) _ (by omega),List.drop_eq_getElem_cons (show i<bs.data.toList.length by omega)]
    have hi:i<bs.data.size:=by simpa using(show i<bs.data.toList.length by omega)
    have e:bs.data[i]! = bs.data[i]:=by rw[getElem!_pos bs.data i hi]
    simp[ByteArray.get!,e]
theorem toList_eq(b:ByteArray):b.toList=b.data.toList:=by
  unfold ByteArray.toList
  rw[v7 b _ 0 [] rfl];simp
theorem str_inj{a b:ByteArray}(h:a.toList=b.toList):a=b:=by
  rw[toList_eq,toList_eq]at h
  exact ByteArray.ext (Array.ext' h)
theorem aZ(a b:ByteArray):(a.toList == b.toList)=decide (a=b):=by
  by_cases h:a=b
  · subst h;simp
  · rw[decide_eq_false h];simp;exact fun e=>h (str_inj e)
end
end Go.AM
