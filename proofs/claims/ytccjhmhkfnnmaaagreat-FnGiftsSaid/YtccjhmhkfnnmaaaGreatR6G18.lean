import Derived.Test.YtccjhmhkfnnmaaaGreatR6G17
import Derived.Test.YtccjhmhkfnnmaaaGreatR6G11
import Derived.Test.YtccjhmhkfnnmaaaGreatAmG9
import Derived.Test.YtccjhmhkfnnmaaaGreatR6G16
import Derived.Test.YtccjhmhkfnnmaaaGreatAmG10
import Derived.Test.YtccjhmhkfnnmaaaGreatCodeFnGifts
set_option linter.unusedVariables false
set_option linter.unusedSimpArgs false
namespace Go.Proofs.YtccjhmhkfnnmaaaGreat
open Go.AM
variable {Γ:cj}
end Go.Proofs.YtccjhmhkfnnmaaaGreat
namespace Go.Proofs.YtccjhmhkfnnmaaaGreat
open Go.AM
variable {Γ:cj}
def pT(peer:Int):aC:=⟨peer,true,[],0,[],0,[]⟩
def D7(peer:Int):List AV:=[.int .i64 peer,.bool true,.nils,.int .i64 0,.nils,.int .i64 0,.nils]
theorem Ex(H:AH)(peer:Int):aO H (D7 peer) (pT peer).cd []:=.i (.b (.o (.nil _) (.i (.o (.nil _) (.i (.o (.nil _) .nil))))))
theorem Ui(peer:Int)(h:AH):T Tryz.prog Γ Fn.VL [.int .i64 peer] h fun v h'=>v=.agg (D7 peer)∧h'=h:=by
  refine TD (aD aJ aK [] _ _ _ ?_)
  unfold Lg
  simp only[EZ,ag,Nat.reduceAdd,Nat.reduceBEq,LW,aF,D7]
  first|exact⟨rfl,rfl⟩|exact rfl|trivial
def eR(script:Int)(l:List ar):aE:=⟨1,script,l,0,⟨0,0⟩,[],[],0,0,0,0⟩
theorem Kd(β:Bool)(script:Int)(l:List ar)(hl:l.length≤1048576)(h:AH):T Tryz.prog Γ Fn.QH [.int .i64 script,.vs β 2 false (l.map (ar.c β))] h (aS h [.a (eR script l).cd]):=by
  refine T.jr ?_
  refine Pl (aD aJ aK [] _ _ _ ?_)
  unfold LC
  have ob:=dK h 2
  obtain⟨v',H',fp',ea,o',nd',hf',hl',hm'⟩:=kR (bytes:=16) (β:=β) (l:=l) (c:=ar.c β) (cd:=ar.cd) ob (by simp) (by omega) (fun x=>⟨rfl,rfl⟩) (fun x=>by simp[ar.c,ar.cd,CD.fb]) (by simp only[List.length_nil,Nat.zero_add,aU];omega)
  obtain⟨c1,c2,c3,c4⟩:=o'.cell
  have hx:bQ h H':=⟨by simp at hl';omega,fun c hc=>by rw[hf' c (by simp;omega) (by simp;omega)];exact List.getElem?_append_left hc⟩
  simp only[EZ,ag,Nat.reduceAdd,Nat.reduceBEq,Ma,EA,aF,aP,EF,ea,c1,c2,c3]
  obtain⟨N,rfl⟩:=hx.out
  have oo:aO (h++N) [.int .i64 1,.int .i64 script,v',.int .i64 0,.int .i64 0,.int .i64 0,.nils,.nils,.int .i64 0,.int .i64 0,.int .i64 0,.int .i64 0] (eR script l).cd fp':=by
    rw[List.nil_append]at o'
    have:=iQ (e:=eR script l) (H:=h++N) o' (.nil 7) (.nil 2)
    simpa[eR]using this
  refine⟨by simp only[EO,c7,c1,c2,c3,c4],_,N,fp',rfl,rfl,oo,nd',fun c hc=>?_⟩
  rcases hm' c hc with g|g
  · rw[List.mem_singleton.1 g];exact Nat.le_refl _
  · simp at g;omega
end Go.Proofs.YtccjhmhkfnnmaaaGreat
namespace Go.Proofs.YtccjhmhkfnnmaaaGreat
open Go.AM
variable {Γ:cj}
theorem ru(H:AH){b:Nat}{bs:List Int}(hb:bs.length≤1073741824)(hc:nc H b bs)(n:Int):T Tryz.prog Γ Fn.IW [.gp b 0 0,.int .i64 n] H fun v h'=>∃x:Bool,v=.bool x∧aR H h' b bs:=by
  refine QI (aD aJ aK [] _ _ _ ?_)
  unfold L3
  simp only[EZ,ag,Nat.reduceAdd,Nat.reduceBEq,Fx]
  refine ah.ref (by simp only[EO]) (aW _ hb hc _) ?_
  rintro _ H1 ⟨x,rfl,x0,x1,d1⟩
  replace d1:aR H H1 b bs:=d1
  simp only[EZ,ag,Nat.reduceAdd,Nat.reduceBEq,Fx]
  first|exact⟨rfl,_,rfl,d1⟩|exact⟨_,rfl,d1⟩
theorem D6(n:Int)(h:AH):T Tryz.prog Γ Fn.NH [.int .i64 n] h fun v h'=>(∃m:Int,v=.agg ((ar.mk 0 m).c false))∧h'=h:=by
  refine Ud (aD aJ aK [] _ _ _ ?_)
  unfold K6
  simp only[EZ,ag,Nat.reduceAdd,Nat.reduceBEq,FP]
  refine ah.ref (by simp only[EO]) (R5 n 1000000 (by omega) (by omega) _) ?_
  rintro _ H1 ⟨⟨x,rfl,x0,x1⟩,e⟩
  replace e:H1=h:=e
  subst e
  simp only[EZ,ag,Nat.reduceAdd,Nat.reduceBEq,FP]
  first|exact⟨rfl,⟨x,rfl⟩,rfl⟩|exact⟨rfl,x,rfl⟩|exact⟨⟨x,rfl⟩,rfl⟩|exact⟨x,rfl⟩
theorem Js(H:AH){b:Nat}{bs:List Int}(hb:bs.length≤1073741824)(hc:nc H b bs){cells:List AV}{v:aA}{f:List Nat}(o:aO H cells v.cd f)(h0:0<v.entities.length)(h1:v.entities.length≤1048576):
    T Tryz.prog Γ Fn.Um [.gp b 0 0,.agg cells] H fun r h'=>∃x:ar,r=.agg (x.c false)∧(x.kind=0∨(x.kind=1∧dU x.n v.entities.length=true))∧aR H h' b bs:=by
  obtain⟨wE,w2,wL,w4,fE,f2,fL,f4,rfl,rfl,oE,o2,oL,o4⟩:=lC o
  have LE:=(dE oE).2
  rw[List.length_map]at LE
  obtain⟨a1,a2,a3,a4⟩:=oE.cell
  obtain⟨b1,b2,b3,b4⟩:=o2.cell
  obtain⟨c1,c2,c3,c4⟩:=oL.cell
  obtain⟨d1,d2,d3,d4⟩:=o4.cell
  refine Qj (aD aJ aK [] _ _ _ ?_)
  unfold Ks
  simp only[EZ,ag,Nat.reduceAdd,Nat.reduceBEq,tB,aF,a1,a2,a3,b1,b2,b3,c1,c2,c3,d1,d2,d3]
  refine ah.ref (by simp only[EO]) (ru _ hb hc _) ?_
  rintro _ H1 ⟨y,rfl,q1⟩
  replace q1:aR H H1 b bs:=q1
  cases y
  · simp only[EZ,ag,Nat.reduceAdd,Nat.reduceBEq,tB,aF,a1,a2,a3,LE]
    refine ah.ref (by simp only[EO]) (aW _ hb q1.cur _) ?_
    rintro _ H2 ⟨x,rfl,x0,x1,q2⟩
    replace q2:aR H1 H2 b bs:=q2
    simp only[EZ,ag,Nat.reduceAdd,Nat.reduceBEq,tB,aF]
    refine ah.val (by simp only[EO]) (sZ _ _) ?_
    simp only[EZ,ag,Nat.reduceAdd,Nat.reduceBEq,tB,aF,ar.c]
    have fin:∃z:ar,AV.agg [.int .i64 1,.int .i64 x]=.agg (z.c false)∧(z.kind=0∨(z.kind=1∧dU z.n v.entities.length=true))∧aR H H2 b bs:=
      ⟨⟨1,x⟩,rfl,.inr ⟨rfl,by have:=x1 (by omega);simp only[dU,Bool.and_eq_true,decide_eq_true_eq];omega⟩,q1.trans q2⟩
    first|exact⟨rfl,fin⟩|exact fin
  · simp only[EZ,ag,Nat.reduceAdd,Nat.reduceBEq,tB,aF]
    refine ah.ref (by simp only[EO]) (aW _ hb q1.cur _) ?_
    rintro _ H2 ⟨x,rfl,x0,x1,q2⟩
    replace q2:aR H1 H2 b bs:=q2
    simp only[EZ,ag,Nat.reduceAdd,Nat.reduceBEq,tB,aF]
    refine ah.ref (by simp only[EO]) (D6 _ _) ?_
    rintro _ H3 ⟨⟨m,rfl⟩,e⟩
    replace e:H3=H2:=e
    subst e
    simp only[EZ,ag,Nat.reduceAdd,Nat.reduceBEq,tB,aF,ar.c]
    have fin:∃z:ar,AV.agg [.int .i64 0,.int .i64 m]=.agg (z.c false)∧(z.kind=0∨(z.kind=1∧dU z.n v.entities.length=true))∧aR H H3 b bs:=⟨⟨0,m⟩,rfl,.inl rfl,q1.trans q2⟩
    first|exact⟨rfl,fin⟩|exact fin
end Go.Proofs.YtccjhmhkfnnmaaaGreat
namespace Go.Proofs.YtccjhmhkfnnmaaaGreat
open Go.AM
variable {Γ:cj}
set_option maxHeartbeats 4000000 in
set_option maxRecDepth 100000 in
theorem RE(β:Bool)(v:aA)(hv:v.ok 1048576)(x:aE)(hx:x.ok 1048576)(h:AH):T Tryz.prog Γ Fn.Gq [.agg (v.c β),.agg (x.c β)] h (aS h [.a (fW v x).cd,.c (.i .i64 (lO v))]):=by
  have LE:=dN β 12 false v.entities (aE.c β)
  refine T.tW rfl ?_
  refine TY (aD aJ aK [] _ _ _ ?_)
  unfold KQ
  simp only[EZ,ag,Nat.reduceAdd,Nat.reduceBEq,BU,qP,qM,aF,aP,ER,aA.c,aE.c]
  refine ah.ref (by simp only[EO]) (Bq β v hv _) ?_
  rintro _ H1 fr
  replace fr:aS h _ _ _:=fr
  obtain⟨aw,fw,rfl,ow,nw,bw,ew⟩:=fr.a1
  obtain⟨wE,w2,wL,w4,fE,f2,fL,f4,rfl,rfl,oE,o2,oL,o4⟩:=lC ow
  obtain⟨a1,a2,a3,a4⟩:=oE.cell
  obtain⟨b1,b2,b3,b4⟩:=o2.cell
  obtain⟨c1,c2,c3,c4⟩:=oL.cell
  obtain⟨d1,d2,d3,d4⟩:=o4.cell
  by_cases hf:200≤v.entities.length
  · have e:fW v x=v:=by rw[fW,if_pos hf]
    have e2:lO v = -1:=by rw[lO,if_pos hf]
    simp only[EZ,ag,Nat.reduceAdd,Nat.reduceBEq,BU,qP,qM,aF,aP,ER,aA.c,aE.c,LE,a1,a2,a3,b1,b2,b3,c1,c2,c3,d1,d2,d3,show decide ((v.entities.length:Int)≥200)=true from decide_eq_true (by omega),show decide ((200:Int)≤(v.entities.length:Int))=true from decide_eq_true (by omega)]
    obtain⟨N,rfl⟩:=ew.out
    exact⟨by simp only[List.all_cons,List.all_nil,EO,a3,b3,c3,d3],_,N,_,by rw[e2,CD.fb],rfl,by rw[e];exact ow,nw,bw⟩
  simp only[EZ,ag,Nat.reduceAdd,Nat.reduceBEq,BU,qP,qM,aF,aP,ER,aA.c,aE.c,LE,a1,a2,a3,b1,b2,b3,c1,c2,c3,d1,d2,d3,show decide ((v.entities.length:Int)≥200)=false from decide_eq_false (by omega),show decide ((200:Int)≤(v.entities.length:Int))=false from decide_eq_false (by omega)]
  refine ah.ref (by simp only[EO]) (Mt β x hx _) ?_
  rintro _ H2 fr
  replace fr:aS H1 _ _ _:=fr
  obtain⟨ax,fx,rfl,ox,nx,bx,ex⟩:=fr.a1
  have nE:fE.Nodup:=(List.nodup_append.1 nw).1
  have nd2:(fE++fx).Nodup:=List.nodup_append.2 ⟨nE,nx,fun c hc d hd e=>by have:=oE.lt c hc;have:=bx d hd;omega⟩
  obtain⟨v',H3,fE',ea,o',nd',hf',hl',hm'⟩:=dw (bytes:=144) (oE.ext ex) nd2 (by omega) (by rw[ox.len];rfl) ox (by simp only[List.length_map,aU];omega)
  obtain⟨j1,j2,j3,j4⟩:=o'.cell
  refine⟨eN rfl,?_⟩
  obtain⟨wS,wQ,wA,fS,fQ,fA,rfl,_,oS,oQ,oA⟩:=et ox
  obtain⟨x1,x2,x3,x4⟩:=oS.cell
  obtain⟨x5,x6,x7,x8⟩:=oQ.cell
  obtain⟨x9,xa,xb,xc⟩:=oA.cell
  simp only[EZ,ag,Nat.reduceAdd,Nat.reduceBEq,BU,qP,qM,EA,aF,aP,ER,aA.c,aE.c,LE,a1,a2,a3,b1,b2,b3,c1,c2,c3,d1,d2,d3,x1,x2,x3,x5,x6,x7,x9,xa,xb,ea,j1,j2,j3]
  refine⟨fun r hr=>?_,?_⟩
  · have:r=22:=by simpa using hr
    subst this
    exact fun n cs hc=>hc
  have hEx:=ex.len
  have hEw:=ew.len
  obtain⟨nE',nR,dER⟩:=List.nodup_append.1 nw
  have ltw:=fun c hc=>ow.lt c hc
  have oth:∀c∈f2++(fL++f4),H3[c]? = H1[c]?:=fun c hc=>by
    have hl:=ltw c (List.mem_append_right _ hc)
    rw[hf' c (fun h=>dER c h c hc rfl) (by omega),ex.fr c hl]
  have e:fW v x={ v with entities:=v.entities++[x] }:=by rw[fW,if_neg hf]
  have e2:lO v=(v.entities.length:Int):=by rw[lO,if_neg hf]
  have own:aO H3 [.int .i64 v.id,v',w2,wL,w4] (fW v x).cd (fE'++(f2++(fL++f4))):=by
    rw[e]
    have:=aO.i (k:=.i64) (n:=v.id) (aO.o (by simpa using o':bN H3 v' (.sl 12 ((v.entities++[x]).map aE.cd)) fE') (aO.o (o2.frame fun c hc=>oth c (by simp[hc])) (aO.o (oL.frame fun c hc=>oth c (by simp[hc])) (aO.o (o4.frame fun c hc=>oth c (by simp[hc])) (.nil)))))
    simpa[aA.cd]using this
  have ex3:bQ h H3:=⟨by omega,fun c hc=>by
    rw[hf' c (fun g=>by have:=bw c (List.mem_append_left _ g);omega) (by omega),ex.fr c (by omega),ew.fr c hc]⟩
  obtain⟨N,hN⟩:=ex3.out
  have tK:∀c∈fE'++(f2++(fL++f4)),h.length≤c:=fun c hc=>by
    rcases List.mem_append.1 hc with g|g
    · rcases hm' c g with q|q|q
      · exact bw c (List.mem_append_left _ q)
      · have:=bx c q;omega
      · omega
    · exact bw c (List.mem_append_right _ g)
  have ndd:(fE'++(f2++(fL++f4))).Nodup:=List.nodup_append.2 ⟨nd',nR,fun c hc d hd e=>by
    subst e
    have hl:=ltw c (List.mem_append_right _ hd)
    rcases hm' c hc with q|q|q
    · exact dER c q c hd rfl
    · have:=bx c q;omega
    · omega⟩
  first|exact⟨by simp only[List.all_cons,List.all_nil,EO,j3,j4,b3,b4,c3,c4,d3,d4],_,N,_,by rw[e2,CD.fb],hN,own,ndd,tK⟩|exact⟨_,N,_,by rw[e2,CD.fb],hN,own,ndd,tK⟩|trace_state
end Go.Proofs.YtccjhmhkfnnmaaaGreat
namespace Go.Proofs.YtccjhmhkfnnmaaaGreat
open Go.AM
variable {Γ:cj}
def aT(v:aA)(n:Int):aE:=v.entities.getD n.toNat default
def fI(v:aA)(k:Nat)(e:aE):aA:={ v with entities:=v.entities.set k e }
def gY(v:aA)(k:Nat)(l:aC):aA:={ v with aq:=v.aq.set k l }
def Nn(v:aA)(peer:Int):Nat:=(dI (fun l:aC=>l.peer == peer) v.aq).toNat
def qg(v:aA)(peer p:Int):aA:=gY v (Nn v peer) (jK (v.aq.getD (Nn v peer) default) p).1
def uU(v:aA)(peer p:Int):Int:=(jK (v.aq.getD (Nn v peer) default) p).2
def kL(r:aE)(peer q:Int):aE:={ r with state:=3,peer:=peer,pos:=q,count:=0,queue:=[] }
def oW(s:aX)(pos ans q:Int)(ws:List aV):aB:=⟨1,pos,ans,q,s.name,ws,⟨0,0⟩,0,s.tag⟩
def eh(v:aA)(s:aX)(peer:Int):aA:=(bu v peer s.args).1
def kF(v:aA)(s:aX)(peer:Int):aA:=fI (qg (eh v s peer) peer s.result) s.result.toNat (kL (aT v s.result) peer (uU (eh v s peer) peer s.result))
def jN(v:aA)(s:aX)(peer pos ans:Int):aA:=i4 (kF v s peer) peer (oW s pos ans (uU (eh v s peer) peer s.result) (bu v peer s.args).2)
def hQ(v:aA)(s:aX)(peer:Int):Bool:=ki v.aq peer && (dU s.result v.entities.length && (decide ((aT v s.result).kind=2) && decide ((aT v s.result).state=1)))
def gW(D:aA→aX→aA)(v:aA)(s:aX)(peer pos ans:Int):aA:=if hQ v s peer=true then (aT v s.result).queue.foldl D (jN v s peer pos ans)else v
def vH(v:aA)(p:Int)(x:ar):ar:=if (kj (eK v x) v.entities.length && !decide (eK v x=⟨1,p⟩))=true then eK v x else c6
def lA(e:aE)(y:ar):aE:={ e with state:=2,value:=y,queue:=[],askers:=[],peer:=0,pos:=0,count:=0 }
def qu(q:Int)(w:aV):aB:=⟨2,0,0,q,⟨#[]⟩,[],w,0,⟨0,0,0⟩⟩
def jX(e:aE)(a:cD):aE:={ e with askers:=e.askers++[a] }
def vo(e:aE)(s:aX):aE:={ e with queue:=e.queue++[s] }
def de(y:ar)(v:aA)(a:cD):aA:=
  if mD v (eK v y)=true then fI v (eK v y).n.toNat (jX (aT v (eK v y).n) a)
  else i4 (cr v a.peer (eK v y)).1 a.peer (qu a.question (cr v a.peer (eK v y)).2)
def td(v:aA)(p:Int):Bool:=dU p v.entities.length && tF (aT v p)
def mY(v:aA)(p:Int)(x:ar):aA:=fI v p.toNat (lA (aT v p) (vH v p x))
def hP(D:aA→aX→aA)(v:aA)(p:Int)(x:ar):aA:=
  if td v p=true then (aT v p).askers.foldl (de (vH v p x)) ((aT v p).queue.foldl D (mY v p x))else v
def kU(v:aA)(s:aX):ar:=eK v ⟨1,s.target⟩
def py(v:aA)(s:aX):aX:={ s with target:=(kU v s).n }
def gv(e:aE):aE:={ e with count:=IntKind.i64.wrap (e.count+1) }
def cn:Nat→aA→aX→aA
  | 0,v,_=>v
  | n+1,v,s=>
    if (decide ((kU v s).kind=1) && dU (kU v s).n v.entities.length)=true then
      (if (aT v (kU v s).n).kind=1 then (if v.loop.length<60 then { v with loop:=v.loop++[py v s] }else hP (cn n) v s.result c6)
      else if (aT v (kU v s).n).kind=3 then
        (if hQ v (py v s) (aT v (kU v s).n).peer=true then gW (cn n) v (py v s) (aT v (kU v s).n).peer (aT v (kU v s).n).pos 0 else hP (cn n) v s.result c6)
      else if (aT v (kU v s).n).kind=2 then
        (if (aT v (kU v s).n).state=3 then
          (if hQ v (py v s) (aT v (kU v s).n).peer=true then
            fI (gW (cn n) v (py v s) (aT v (kU v s).n).peer 0 (aT v (kU v s).n).pos) (kU v s).n.toNat (gv (aT (gW (cn n) v (py v s) (aT v (kU v s).n).peer 0 (aT v (kU v s).n).pos) (kU v s).n))
          else hP (cn n) v s.result c6)
        else if (aT v (kU v s).n).state=2 then hP (cn n) v s.result c6
        else (if (aT v (kU v s).n).queue.length<40 then fI v (kU v s).n.toNat (vo (aT v (kU v s).n) (py v s))else hP (cn n) v s.result c6))
      else hP (cn n) v s.result c6)
    else hP (cn n) v s.result c6
def pq(l:List aX):Nat:=(l.map fun s=>2+s.args.length).sum
def jB(e:aE):Nat:=pq e.queue+2*e.askers.length
def vG(l:aC):Nat:=l.exports.length+l.questions.length
def wV(v:aA):Nat:=(v.entities.map jB).sum+v.out.length+(v.aq.map vG).sum
def vJ(e:aE):Nat:=if e.kind=2 then (if e.state=1 then 2 else if e.state=3∨e.state=4 then 1 else 0)else 0
def jj(v:aA):Nat:=(v.entities.map vJ).sum
theorem qR{α:Type}(g:α→Nat):∀(l:List α) (k:Nat) (x:α) (h:k<l.length),((l.set k x).map g).sum+g l[k]=(l.map g).sum+g x
  | a::l,0,x,h=>by simp;omega
  | a::l,k+1,x,h=>by
    have:=qR g l k x (by simpa using h)
    simp only[List.set_cons_succ,List.map_cons,List.sum_cons,List.getElem_cons_succ];omega
theorem An{α:Type}(g:α→Nat):∀(l:List α) (k:Nat) (h:k<l.length),g l[k]≤(l.map g).sum
  | a::l,0,h=>by simp
  | a::l,k+1,h=>by
    have:=An g l k (by simpa using h)
    simp only[List.map_cons,List.sum_cons,List.getElem_cons_succ];omega
structure VI (v:aA):Prop where
  ents:v.entities.length≤200
  loop:v.loop.length≤60
  aq:v.aq.length≤100
  ans:∀l∈v.aq,l.answers.length≤100
  en:∀e∈v.entities,e.slots.length≤100∧∀s∈e.queue,s.ok 100
  lps:∀s∈v.loop,s.ok 100
  outs:∀o∈v.out,o.ok 100
theorem FN{v:aA}{l:aC}(h:l∈v.aq):vG l≤wV v:=by
  obtain⟨k,hk,rfl⟩:=List.getElem_of_mem h
  have:=An vG v.aq k hk
  unfold wV;omega
theorem GK{v:aA}{e:aE}(h:e∈v.entities):jB e≤wV v:=by
  obtain⟨k,hk,rfl⟩:=List.getElem_of_mem h
  have:=An jB v.entities k hk
  unfold wV;omega
theorem Ae(l:List aX):2*l.length≤pq l:=by
  induction l with
  | nil=>simp[pq]
  | cons a l ih=>simp only[pq,List.map_cons,List.sum_cons,List.length_cons]at *;omega
theorem VI.Ff{v:aA}(h:VI v):Fm (wV v+100) v:=fun l hl=>by
  have h1:=FN hl
  have h2:=h.ans l hl
  unfold vG at h1
  exact⟨by omega,by omega,by omega⟩
theorem VI.MN{v:aA}(h:VI v):v.ok (wV v+200):=by
  refine⟨by have:=h.ents;omega,fun e he=>?_,by have:=h.loop;omega,fun s hs=>(h.lps s hs).mono (by omega),by have:=h.aq;omega,fun l hl=>(h.Ff l hl).mono (by omega),by unfold wV;omega,fun o ho=>(h.outs o ho).mono (by omega)⟩
  have h1:=GK he
  have h2:=Ae e.queue
  have h3:=h.en e he
  unfold jB at h1
  exact⟨by omega,by omega,fun s hs=>(h3.2 s hs).mono (by omega),by omega⟩
theorem gg{v:aA}{n:Int}(h:dU n v.entities.length=true):∃k:Nat,∃hk:k<v.entities.length,n=(k:Int)∧n.toNat=k∧aT v n=v.entities[k]:=by
  simp only[dU,Bool.and_eq_true,decide_eq_true_eq]at h
  have hk:n.toNat<v.entities.length:=by omega
  exact⟨n.toNat,hk,by omega,rfl,by simp[aT,List.getD_eq_getElem?_getD,hk]⟩
theorem nu{v:aA}{n:Int}(h:dU n v.entities.length=true)(e:aE):wV (fI v n.toNat e)+jB (aT v n)=wV v+jB e:=by
  obtain⟨k,hk,_,e2,e3⟩:=gg h
  have:=qR jB v.entities k e hk
  rw[e2,e3];simp only[wV,fI];omega
theorem pB{v:aA}{n:Int}(h:dU n v.entities.length=true)(e:aE):jj (fI v n.toNat e)+vJ (aT v n)=jj v+vJ e:=by
  obtain⟨k,hk,_,e2,e3⟩:=gg h
  have:=qR vJ v.entities k e hk
  rw[e2,e3];simp only[jj,fI];omega
theorem ie(v:aA)(k:Nat)(e:aE):(fI v k e).entities.length=v.entities.length:=by simp[fI]
theorem j8{v:aA}(h:VI v)(k:Nat)(e:aE)(he:e.slots.length≤100∧∀s∈e.queue,s.ok 100):VI (fI v k e):=
  ⟨by rw[ie];exact h.ents,h.loop,h.aq,h.ans,fun x hx=>by
    rcases List.mem_or_eq_of_mem_set hx with g|g
    · exact h.en x g
    · rw[g];exact he,h.lps,h.outs⟩
theorem gj{v:aA}(h:VI v)(n:Int):(aT v n).slots.length≤100∧∀s∈(aT v n).queue,s.ok 100:=by
  unfold aT
  rw[List.getD_eq_getElem?_getD]
  cases hk:v.entities[n.toNat]? with
  | some e=>exact h.en e (List.mem_of_getElem? hk)
  | none=>exact⟨Nat.zero_le _,fun s hs=>by cases hs⟩
structure nK (v v':aA):Prop where
  ents:v'.entities=v.entities
  loop:v'.loop=v.loop
  id:v'.id=v.id
theorem nK.refl(v:aA):nK v v:=⟨rfl,rfl,rfl⟩
theorem nK.trans{a b c:aA}(h:nK a b)(k:nK b c):nK a c:=⟨k.ents.trans h.ents,k.loop.trans h.loop,k.id.trans h.id⟩
theorem nK.mu{v v':aA}(h:nK v v'):jj v'=jj v:=by rw[jj,h.ents,jj]
theorem CB(l:aC)(e:Int):vG (df l e).1≤vG l+1:=by
  obtain⟨h1,h2,_⟩:=kg l e
  unfold vG;rw[h2];omega
theorem px{v:aA}(k:Nat)(l:aC){c:Nat}(hl:vG l≤vG (v.aq.getD k default)+c):wV (gY v k l)≤wV v+c:=by
  by_cases hk:k<v.aq.length
  · have:=qR vG v.aq k l hk
    rw[List.getD_eq_getElem?_getD,List.getElem?_eq_getElem hk,Option.getD_some]at hl
    simp only[wV,gY];omega
  · simp only[wV,gY];rw[List.set_eq_of_length_le (by omega)];omega
theorem Bm{v:aA}(h:VI v)(k:Nat):(v.aq.getD k default).answers.length≤100:=by
  rw[List.getD_eq_getElem?_getD]
  cases hk:v.aq[k]? with
  | some l=>exact h.ans l (List.mem_of_getElem? hk)
  | none=>exact Nat.zero_le _
theorem lB{v:aA}(h:VI v)(k:Nat)(l:aC)(hl:l.answers.length≤100):VI (gY v k l):=
  ⟨h.ents,h.loop,by simpa[gY]using h.aq,fun x hx=>by
    rcases List.mem_or_eq_of_mem_set hx with g|g
    · exact h.ans x g
    · rw[g];exact hl,h.en,h.lps,h.outs⟩
theorem pb(v:aA)(peer:Int)(x:ar):nK v (cr v peer x).1∧wV (cr v peer x).1≤wV v+1∧(cr v peer x).1.out=v.out∧(VI v→VI (cr v peer x).1):=by
  unfold cr
  split
  · exact⟨.refl _,Nat.le_succ _,rfl,id⟩
  · split
    · split
      · exact⟨.refl _,Nat.le_succ _,rfl,id⟩
      · refine⟨⟨rfl,rfl,rfl⟩,px (v:=v) _ _ (CB _ _),rfl,fun h=>lB h _ _ ?_⟩
        rw[(kg _ _).2.2]
        exact Bm h _
    · exact⟨.refl _,Nat.le_succ _,rfl,id⟩
theorem qo(peer:Int):∀(l:List ar) (v:aA),nK v (bu v peer l).1∧wV (bu v peer l).1≤wV v+l.length∧(bu v peer l).1.out=v.out∧(VI v→VI (bu v peer l).1)
  | [],v=>⟨.refl _,by simp[bu],rfl,id⟩
  | x::l,v=>by
    obtain⟨h1,h2,h3,h4⟩:=pb v peer x
    obtain⟨k1,k2,k3,k4⟩:=qo peer l (cr v peer x).1
    simp only[bu,List.length_cons]
    exact⟨h1.trans k1,by omega,k3.trans h3,fun h=>k4 (h4 h)⟩
theorem qC(v:aA)(p:Int)(m:aB):nK v (i4 v p m)∧wV (i4 v p m)≤wV v+1∧(VI v→m.ok 100→VI (i4 v p m)):=by
  unfold i4
  split
  · refine⟨⟨rfl,rfl,rfl⟩,by simp only[wV,List.length_append,List.length_cons,List.length_nil];omega,fun h hm=>⟨h.ents,h.loop,h.aq,h.ans,h.en,h.lps,fun o ho=>?_⟩⟩
    rcases List.mem_append.1 ho with g|g
    · exact h.outs o g
    · rw[List.mem_singleton.1 g];exact hm
  · exact⟨.refl _,by omega,fun h _=>h⟩
theorem uN(v:aA)(peer p:Int):nK v (qg v peer p)∧wV (qg v peer p)≤wV v+1∧(VI v→VI (qg v peer p)):=by
  refine⟨⟨rfl,rfl,rfl⟩,px _ _ (by simp[vG,jK];omega),fun h=>lB h _ _ ?_⟩
  simp only[jK]
  exact Bm h _
theorem nK.aT{v v':aA}(h:nK v v')(n:Int):aT v' n=aT v n:=by unfold Go.Proofs.YtccjhmhkfnnmaaaGreat.aT;rw[h.ents]
theorem tY(v:aA)(s:aX)(peer:Int):nK v (eh v s peer)∧wV (eh v s peer)≤wV v+s.args.length∧(VI v→VI (eh v s peer)):=
  let ⟨h1,h2,_,h4⟩:=qo peer s.args v
  ⟨h1,h2,h4⟩
theorem uT{v:aA}{s:aX}{peer:Int}(h:hQ v s peer=true):ki v.aq peer=true∧dU s.result v.entities.length=true∧(aT v s.result).kind=2∧(aT v s.result).state=1:=by
  simp only[hQ,Bool.and_eq_true,decide_eq_true_eq]at h
  exact⟨h.1,h.2.1,h.2.2.1,h.2.2.2⟩
theorem DL{v:aA}{s:aX}{peer pos ans:Int}(h:hQ v s peer=true):(jN v s peer pos ans).entities.length=v.entities.length∧wV (jN v s peer pos ans)+pq (aT v s.result).queue≤wV v+2+s.args.length∧jj (jN v s peer pos ans)+1=jj v∧(VI v→s.ok 100→VI (jN v s peer pos ans)):=by
  obtain⟨_,h2,h3,h4⟩:=uT h
  obtain⟨w1,w2,w3⟩:=tY v s peer
  obtain⟨a1,a2,a3⟩:=uN (eh v s peer) peer s.result
  have sm:=w1.trans a1
  have hl:dU s.result (qg (eh v s peer) peer s.result).entities.length=true:=by rw[sm.ents];exact h2
  have e0:=sm.aT s.result
  have b1:=nu hl (kL (aT v s.result) peer (uU (eh v s peer) peer s.result))
  have b2:=pB hl (kL (aT v s.result) peer (uU (eh v s peer) peer s.result))
  rw[e0]at b1 b2
  have m1:vJ (aT v s.result)=2:=by simp[vJ,h3,h4]
  have m2:vJ (kL (aT v s.result) peer (uU (eh v s peer) peer s.result))=1:=by simp[vJ,kL,h3]
  have g1:jB (kL (aT v s.result) peer (uU (eh v s peer) peer s.result))+pq (aT v s.result).queue=jB (aT v s.result):=by simp[jB,kL,pq];omega
  obtain⟨p1,p2,p3⟩:=qC (kF v s peer) peer (oW s pos ans (uU (eh v s peer) peer s.result) (bu v peer s.args).2)
  refine⟨?_,?_,?_,fun hv hs=>p3 ?_ ?_⟩
  · show(i4 _ _ _).entities.length=_
    rw[p1.ents];unfold kF;rw[ie,sm.ents]
  · show wV (i4 _ _ _)+_≤_
    unfold kF at p2 ⊢;omega
  · show jj (i4 _ _ _)+1=_
    rw[p1.mu];unfold kF
    have:=sm.mu
    omega
  · unfold kF
    exact j8 (a3 (w3 hv)) _ _ ⟨(gj hv s.result).1,fun x hx=>by simp[kL]at hx⟩
  · exact⟨hs.1,by rw[show(oW s pos ans (uU (eh v s peer) peer s.result) (bu v peer s.args).2).args=(bu v peer s.args).2 from rfl,lX];exact hs.2⟩
structure U3 (D:aA→aX→aA):Prop where
  len:∀v s,(D v s).entities.length=v.entities.length
  w:∀v s,wV (D v s)≤wV v+2+s.args.length
  mu:∀v s,jj (D v s)≤jj v
  vi:∀v s,VI v→s.ok 100→VI (D v s)
theorem oD{D:aA→aX→aA}(h:U3 D):∀(q:List aX) (v:aA),(q.foldl D v).entities.length=v.entities.length∧wV (q.foldl D v)≤wV v+pq q∧jj (q.foldl D v)≤jj v∧(VI v→(∀s∈q,s.ok 100)→VI (q.foldl D v))
  | [],v=>⟨rfl,by simp[pq],Nat.le_refl _,fun h _=>h⟩
  | s::q,v=>by
    obtain⟨k1,k2,k3,k4⟩:=oD h q (D v s)
    have h1:=h.len v s
    have h2:=h.w v s
    have h3:=h.mu v s
    simp only[List.foldl_cons]
    refine⟨k1.trans h1,by simp only[pq,List.map_cons,List.sum_cons]at *;omega,by omega,fun hv hq=>k4 (h.vi v s hv (hq s (by simp))) fun x hx=>hq x (by simp[hx])⟩
theorem AQ{D:aA→aX→aA}(h:U3 D)(v:aA)(s:aX)(peer pos ans:Int):(gW D v s peer pos ans).entities.length=v.entities.length∧wV (gW D v s peer pos ans)≤wV v+2+s.args.length∧jj (gW D v s peer pos ans)≤jj v∧(VI v→s.ok 100→VI (gW D v s peer pos ans)):=by
  unfold gW
  split
  · rename_i hc
    obtain⟨c1,c2,c3,c4⟩:=DL (pos:=pos) (ans:=ans) hc
    obtain⟨f1,f2,f3,f4⟩:=oD h (aT v s.result).queue (jN v s peer pos ans)
    exact⟨f1.trans c1,by omega,by omega,fun hv hs=>f4 (c4 hv hs) (gj hv _).2⟩
  · exact⟨rfl,by omega,Nat.le_refl _,fun hv _=>hv⟩
theorem Fj(y:ar)(v:aA)(a:cD):(de y v a).entities.length=v.entities.length∧wV (de y v a)≤wV v+2∧jj (de y v a)≤jj v∧(VI v→VI (de y v a)):=by
  unfold de
  split
  · rename_i hp
    have hl:dU (eK v y).n v.entities.length=true:=by
      simp only[mD,Bool.and_eq_true]at hp;exact hp.2.1
    have b1:=nu hl (jX (aT v (eK v y).n) a)
    have b2:=pB hl (jX (aT v (eK v y).n) a)
    refine⟨ie _ _ _,?_,?_,fun hv=>j8 hv _ _ (gj hv _)⟩
    · have g:jB (jX (aT v (eK v y).n) a)=jB (aT v (eK v y).n)+2:=by simp only[jB,jX,List.length_append,List.length_cons,List.length_nil];omega
      omega
    · have g:vJ (jX (aT v (eK v y).n) a)=vJ (aT v (eK v y).n):=rfl
      omega
  · obtain⟨t1,t2,_,t4⟩:=pb v a.peer (eK v y)
    obtain⟨p1,p2,p3⟩:=qC (cr v a.peer (eK v y)).1 a.peer (qu a.question (cr v a.peer (eK v y)).2)
    have sm:=t1.trans p1
    exact⟨by rw[sm.ents],by omega,by rw[sm.mu];exact Nat.le_refl _,fun hv=>p3 (t4 hv) ⟨Nat.zero_le _,Nat.zero_le _⟩⟩
theorem rX(y:ar):∀(l:List cD) (v:aA),(l.foldl (de y) v).entities.length=v.entities.length∧wV (l.foldl (de y) v)≤wV v+2*l.length∧jj (l.foldl (de y) v)≤jj v∧(VI v→VI (l.foldl (de y) v))
  | [],v=>⟨rfl,by simp,Nat.le_refl _,id⟩
  | a::l,v=>by
    obtain⟨k1,k2,k3,k4⟩:=rX y l (de y v a)
    obtain⟨h1,h2,h3,h4⟩:=Fj y v a
    simp only[List.foldl_cons,List.length_cons]
    exact⟨k1.trans h1,by omega,by omega,fun hv=>k4 (h4 hv)⟩
theorem Ij{v:aA}{p:Int}(h:td v p=true)(x:ar):(mY v p x).entities.length=v.entities.length∧wV (mY v p x)+jB (aT v p)=wV v∧jj (mY v p x)+1≤jj v∧(VI v→VI (mY v p x)):=by
  simp only[td,Bool.and_eq_true]at h
  have b1:=nu h.1 (lA (aT v p) (vH v p x))
  have b2:=pB h.1 (lA (aT v p) (vH v p x))
  have m1:vJ (lA (aT v p) (vH v p x))=0:=by simp[vJ,lA]
  have m2:1≤vJ (aT v p):=by
    have hp:=h.2
    simp only[tF,Bool.and_eq_true,Bool.or_eq_true,decide_eq_true_eq]at hp
    unfold vJ
    rw[if_pos hp.1]
    rcases hp.2 with g|g|g
    · rw[if_pos g];omega
    · rw[if_neg (by omega),if_pos (.inl g)];omega
    · rw[if_neg (by omega),if_pos (.inr g)];omega
  have g1:jB (lA (aT v p) (vH v p x))=0:=by simp[jB,lA,pq]
  refine⟨ie _ _ _,?_,?_,fun hv=>j8 hv _ _ ⟨(gj hv p).1,fun s hs=>by simp[lA]at hs⟩⟩
  · unfold mY;omega
  · unfold mY;omega
theorem C9{D:aA→aX→aA}(h:U3 D)(v:aA)(p:Int)(x:ar):(hP D v p x).entities.length=v.entities.length∧wV (hP D v p x)≤wV v∧jj (hP D v p x)≤jj v∧(VI v→VI (hP D v p x)):=by
  unfold hP
  split
  · rename_i hr
    obtain⟨k1,k2,k3,k4⟩:=Ij hr x
    obtain⟨f1,f2,f3,f4⟩:=oD h (aT v p).queue (mY v p x)
    obtain⟨a1,a2,a3,a4⟩:=rX (vH v p x) (aT v p).askers ((aT v p).queue.foldl D (mY v p x))
    refine⟨a1.trans (f1.trans k1),?_,by omega,fun hv=>a4 (f4 (k4 hv) (gj hv p).2)⟩
    unfold jB at k2;omega
  · exact⟨rfl,by omega,Nat.le_refl _,id⟩
theorem iI:∀n,U3 (cn n)
  | 0=>⟨fun _ _=>rfl,fun _ _=>by simp only[cn];omega,fun _ _=>Nat.le_refl _,fun _ _ h _=>h⟩
  | n+1=>by
    have h:=iI n
    have all:∀v s,(cn (n+1) v s).entities.length=v.entities.length∧wV (cn (n+1) v s)≤wV v+2+s.args.length∧jj (cn (n+1) v s)≤jj v∧(VI v→s.ok 100→VI (cn (n+1) v s)):=by
      intro v s
      have fail:(hP (cn n) v s.result c6).entities.length=v.entities.length∧wV (hP (cn n) v s.result c6)≤wV v+2+s.args.length∧jj (hP (cn n) v s.result c6)≤jj v∧(VI v→s.ok 100→VI (hP (cn n) v s.result c6)):=by
        obtain⟨r1,r2,r3,r4⟩:=C9 h v s.result c6
        exact⟨r1,by omega,r3,fun hv _=>r4 hv⟩
      have call:=fun peer pos ans=>AQ h v (py v s) peer pos ans
      unfold cn
      split
      rotate_left
      · exact fail
      rename_i ht
      have hl:dU (kU v s).n v.entities.length=true:=by simp only[Bool.and_eq_true]at ht;exact ht.2
      split
      · split
        · refine⟨rfl,by simp only[wV];omega,Nat.le_refl _,fun hv hs=>⟨hv.ents,?_,hv.aq,hv.ans,hv.en,fun x hx=>?_,hv.outs⟩⟩
          · simp only[List.length_append,List.length_cons,List.length_nil];omega
          · rcases List.mem_append.1 hx with g|g
            · exact hv.lps x g
            · rw[List.mem_singleton.1 g];exact hs
        · exact fail
      split
      · split
        · exact call _ _ _
        · exact fail
      split
      · split
        · split
          · obtain⟨c1,c2,c3,c4⟩:=call (aT v (kU v s).n).peer 0 (aT v (kU v s).n).pos
            generalize gW (cn n) v (py v s) (aT v (kU v s).n).peer 0 (aT v (kU v s).n).pos=v' at c1 c2 c3 c4
            have hl':dU (kU v s).n v'.entities.length=true:=by rw[c1];exact hl
            have b1:=nu hl' (gv (aT v' (kU v s).n))
            have b2:=pB hl' (gv (aT v' (kU v s).n))
            have g1:jB (gv (aT v' (kU v s).n))=jB (aT v' (kU v s).n):=rfl
            have g2:vJ (gv (aT v' (kU v s).n))=vJ (aT v' (kU v s).n):=rfl
            have g3:(py v s).args=s.args:=rfl
            rw[g3]at c2
            exact⟨(ie _ _ _).trans c1,by omega,by omega,fun hv hs=>j8 (c4 hv hs) _ _ (gj (c4 hv hs) _)⟩
          · exact fail
        split
        · exact fail
        split
        · have b1:=nu hl (vo (aT v (kU v s).n) (py v s))
          have b2:=pB hl (vo (aT v (kU v s).n) (py v s))
          refine⟨ie _ _ _,?_,?_,fun hv hs=>j8 hv _ _ ⟨(gj hv _).1,fun x hx=>?_⟩⟩
          · have g:jB (vo (aT v (kU v s).n) (py v s))=jB (aT v (kU v s).n)+(2+s.args.length):=by simp only[jB,vo,pq,List.map_append,List.map_cons,List.map_nil,List.sum_append,List.sum_cons,List.sum_nil,py];omega
            omega
          · have g:vJ (vo (aT v (kU v s).n) (py v s))=vJ (aT v (kU v s).n):=rfl
            omega
          · rcases List.mem_append.1 hx with g|g
            · exact(gj hv _).2 x g
            · rw[List.mem_singleton.1 g];exact hs
        · exact fail
      · exact fail
    exact⟨fun v s=>(all v s).1,fun v s=>(all v s).2.1,fun v s=>(all v s).2.2.1,fun v s=>(all v s).2.2.2⟩
end Go.Proofs.YtccjhmhkfnnmaaaGreat
namespace Go.Proofs.YtccjhmhkfnnmaaaGreat
open Go.AM
def GQ:C:=.seq (.regD sq si) (.seq (.reg [mV 100 0,mV 101 2,mV 102 3,mV 103 4,mV 104 15,mF 105 1 6,mL 106 1 105,mV 107 12,mF 108 4 6,mG 109 3 108,⟨(some 110),none,.build [.int .i64 0,.int .i64 0,.int .i64 0,.int .i64 0,.str ⟨#[]⟩,.nils,.int .i64 0,.int .i64 0,.int .i64 0,.int .i64 0,.int .i64 0,.int .i64 0] [(0,1,.c (.int .i64 1)),(1,1,.t 102),(2,1,.t 103),(3,1,.t 104),(4,1,.t 106),(5,1,.t 107),(9,3,.t 109)]⟩,mC 111 Fn.Ix [.t 100,.t 101,.t 110]]) (.seq (.seq (.reg [mK 17 0]) (.block 0 (.loop (.seq (.seq (.reg [mV 112 17,mV 113 16,mN 114 113,mB 115 .lss 112 114]) (.cond (.t 115) .skip (.exit 0))) (.seq (.block 1 (.reg [mV 118 0,mV 119 16,mV 120 17,mX 121 7 119 120,mG 122 7 121,mC 123 Fn.Iv [.t 118,.t 122]])) (.reg [mV 116 17,mI 117 .add 116 1,mV 17 117])))))) (.seq (.reg [mT 10 true]) .ret)))
def Gc:C:=.seq (.regD sv sj) (.seq (.reg [mF 82 3 11,⟨none,none,.store 1 (.t 82) (.c (.int .i64 3))⟩]) (.seq (.reg [mV 83 2,mF 84 8 11,mS 1 84 83]) (.seq (.reg [mV 85 15,mF 86 9 11,mS 1 86 85]) (.seq (.reg [mF 87 10 11,⟨none,none,.store 1 (.t 87) (.c (.int .i64 0))⟩]) (.seq (.reg [mF 88 6 11,mL 89 1 88,mV 16 89]) (.seq (.reg [⟨(some 90),none,.bsl 7 0 [.int .i64 0,.str ⟨#[]⟩,.nils,.int .i64 0,.int .i64 0,.int .i64 0,.int .i64 0] []⟩,mF 91 6 11,mS 1 91 90]) (GQ)))))))
def Hv:C:=.seq (.regD sD sK) (Gc)
def AL:C:=.seq (.regD sC rM) (.seq (.seq (.reg [mF 44 0 11,mL 45 1 44,mI 46 .neq 45 2,mV 47 46,⟨(some 48),(some (3,false)),.fld 3 (.t 11)⟩,⟨(some 49),(some (3,false)),.load 1 false (.t 48)⟩,⟨(some 50),(some (3,false)),.bin .neq (.num) (.t 49) (.c (.int .i64 1))⟩,⟨(some 51),none,.pick (.t 47) (.c (.bool true)) (.t 50)⟩]) (.cond (.t 51) (.seq (.reg [mT 10 false]) .ret) .skip)) (.seq (.reg [mV 52 0,mV 53 2,mF 54 2 6,mL 55 1 54,mC 56 Fn.U8 [.t 52,.t 53,.t 55],mV 12 56]) (.seq (.reg [mV 57 0,⟨(some 58),none,.nilchk (.t 57)⟩,mG 59 5 58,mV 60 2,mC 61 Fn.yC [.t 59,.t 60],mV 13 61]) (Hv))))
def Fu:C:=.seq (.reg [mA 6 1,mT 10 false]) (.seq (.seq (.regD sJ sA) (.cond (.t 35) (.seq (.reg [mT 10 false]) .ret) .skip)) (AL))
theorem Oq:KK=Fu:=rfl
def Ib:C:=.seq (.regD oK pv) (.seq (.reg [mT 5 false]) (.seq (.seq (.regD pl pK) (.cond (.t 27) (.seq (.regD pc pH) (.seq (.reg [mF 36 1 4,mL 37 1 36,mF 38 0 3,mS 1 38 37]) (.block 0 (.seq (.reg [mF 40 0 6,mL 41 1 40,mI 42 .eql 41 1,mV 39 42]) (.cond (.t 39) (.seq (.reg [mV 43 0,⟨(some 44),none,.nilchk (.t 43)⟩,mF 45 2 44,mL 46 1 45,mN 47 46,mI 48 .lss 47 60]) (.cond (.t 48) (.seq (.regD pF pj) (.reg [mT 5 true])) .skip)) (.seq (.reg [mF 60 0 6,mL 61 1 60,mI 62 .eql 61 3,mV 59 62]) (.cond (.t 59) (.reg [mV 63 0,mG 64 7 3,mF 65 8 6,mL 66 1 65,mF 67 9 6,mL 68 1 67,mC 69 Fn.Lx [.t 63,.t 64,.t 66,.t 68,.c (.int .i64 0)],mV 5 69]) (.seq (.reg [mF 71 0 6,mL 72 1 71,mI 73 .eql 72 2,mV 74 73,⟨(some 75),(some (3,true)),.fld 3 (.t 6)⟩,⟨(some 76),(some (3,true)),.load 1 false (.t 75)⟩,⟨(some 77),(some (3,true)),.bin .eql (.num) (.t 76) (.c (.int .i64 3))⟩,⟨(some 78),none,.pick (.t 74) (.t 77) (.c (.bool false))⟩,mV 70 78]) (.cond (.t 70) (.seq (.reg [mV 79 0,mG 80 7 3,mF 81 8 6,mL 82 1 81,mF 83 9 6,mL 84 1 83,mC 85 Fn.Lx [.t 79,.t 80,.t 82,.c (.int .i64 0),.t 84],mV 5 85]) (.seq (.reg [mV 86 5]) (.cond (.t 86) (.regD oJ oU) .skip))) (.seq (.reg [mF 106 0 6,mL 107 1 106,mI 108 .eql 107 2,mV 109 108,⟨(some 110),(some (3,true)),.fld 3 (.t 6)⟩,⟨(some 111),(some (3,true)),.load 1 false (.t 110)⟩,⟨(some 112),(some (3,true)),.bin .neq (.num) (.t 111) (.c (.int .i64 2))⟩,⟨(some 113),none,.pick (.t 109) (.t 112) (.c (.bool false))⟩,mV 105 113]) (.cond (.t 105) (.seq (.reg [mF 114 6 6,mL 115 1 114,mN 116 115,mI 117 .lss 116 40]) (.cond (.t 117) (.seq (.regD oY pD) (.reg [mT 5 true])) .skip)) .skip))))))))))) .skip)) (.seq (.reg [mV 131 5,mU 132 131]) (.cond (.t 132) (.regD pL oZ) .skip))))
def F5:C:=.seq (.reg [mA 3 1]) (Ib)
theorem Om:Lt=F5:=rfl
def Hn:C:=.seq (.regD pg oP) (.seq (.seq (.reg [mK 9 0]) (.block 0 (.loop (.seq (.seq (.reg [mV 78 9,mF 79 6 7,mL 80 1 79,mN 81 80,mB 82 .lss 78 81]) (.cond (.t 82) .skip (.exit 0))) (.seq (.block 1 (.reg [mV 85 0,mF 86 6 7,mL 87 1 86,mV 88 9,mX 89 7 87 88,mG 90 7 89,mC 91 Fn.Iv [.t 85,.t 90]])) (.reg [mV 83 9,mI 84 .add 83 1,mV 9 84])))))) (.seq (.reg [mK 10 0]) (.block 2 (.loop (.seq (.seq (.reg [mV 92 10,mF 93 7 7,mL 94 1 93,mN 95 94,mB 96 .lss 92 95]) (.cond (.t 96) .skip (.exit 2))) (.seq (.block 3 (.seq (.regD pn pa) (.seq (.seq (.reg [mV 104 0,mG 105 2 11,mC 106 Fn.SZ [.t 104,.t 105]]) (.cond (.t 106) (.seq (.regD oF pw) (.exit 3)) .skip)) (.seq (.regD k9 pA) (.regD oC pt))))) (.reg [mV 97 10,mI 98 .add 97 1,mV 10 98])))))))
def G5:C:=.seq (.regD sB se) (.seq (.seq (.regD rN ss) (.cond (.t 51) (.reg [mC 52 Fn.Gv [],mS 2 6 52]) .skip)) (.seq (.reg [mV 53 0,⟨(some 54),none,.nilchk (.t 53)⟩,mF 55 1 54,mL 56 1 55,mV 57 1,mX 58 12 56 57,mG 59 12 58,⟨(some 7),none,.alloc [.int .i64 0,.int .i64 0,.nils,.int .i64 0,.int .i64 0,.int .i64 0,.nils,.nils,.int .i64 0,.int .i64 0,.int .i64 0,.int .i64 0]⟩,mS 12 7 59]) (.seq (.reg [mG 60 12 7,⟨(some 8),none,.alloc [.int .i64 0,.int .i64 0,.nils,.int .i64 0,.int .i64 0,.int .i64 0,.nils,.nils,.int .i64 0,.int .i64 0,.int .i64 0,.int .i64 0]⟩,mS 12 8 60]) (.seq (.reg [mF 61 3 8,⟨none,none,.store 1 (.t 61) (.c (.int .i64 2))⟩]) (.seq (.reg [mG 62 2 6,mF 63 4 8,mS 2 63 62]) (.seq (.reg [⟨(some 64),none,.bsl 7 0 [.int .i64 0,.str ⟨#[]⟩,.nils,.int .i64 0,.int .i64 0,.int .i64 0,.int .i64 0] []⟩,mF 65 6 8,mS 1 65 64]) (.seq (.reg [⟨(some 66),none,.bsl 2 0 [.int .i64 0,.int .i64 0] []⟩,mF 67 7 8,mS 1 67 66]) (.seq (.reg [mF 68 8 8,⟨none,none,.store 1 (.t 68) (.c (.int .i64 0))⟩]) (.seq (.reg [mF 69 9 8,⟨none,none,.store 1 (.t 69) (.c (.int .i64 0))⟩]) (.seq (.reg [mF 70 10 8,⟨none,none,.store 1 (.t 70) (.c (.int .i64 0))⟩]) (Hn)))))))))))
def GD:C:=.seq (.reg [mA 5 2]) (.seq (.seq (.reg [mV 13 1,mV 14 0,⟨(some 15),none,.nilchk (.t 14)⟩,mF 16 1 15,mL 17 1 16,mN 18 17,mI 19 .sub 18 1,mC 20 Fn.ke [.t 13,.c (.int .i64 0),.t 19],mU 21 20,mV 22 21,⟨(some 23),(some (9,false)),.mov (.t 0)⟩,⟨(some 24),(some (9,false)),.nilchk (.t 23)⟩,⟨(some 25),(some (9,false)),.fld 1 (.t 24)⟩,⟨(some 26),(some (9,false)),.load 1 false (.t 25)⟩,⟨(some 27),(some (9,false)),.mov (.t 1)⟩,⟨(some 28),(some (9,false)),.idxs 12 (.t 26) (.t 27)⟩,⟨(some 29),(some (9,false)),.load 12 true (.t 28)⟩,⟨(some 30),(some (9,false)),.call (.c (.fn Fn.OI [] [])) [.t 29]⟩,⟨(some 31),(some (9,false)),.un .not (.t 30)⟩,⟨(some 32),none,.pick (.t 22) (.c (.bool true)) (.t 31)⟩]) (.cond (.t 32) .ret .skip)) (G5))
theorem OG:L8=GD:=rfl
end Go.Proofs.YtccjhmhkfnnmaaaGreat
