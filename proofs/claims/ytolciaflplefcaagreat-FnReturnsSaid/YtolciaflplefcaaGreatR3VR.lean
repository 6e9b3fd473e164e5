import Derived.Test.YtolciaflplefcaaGreatR3VQ
import Derived.Test.YtolciaflplefcaaGreatAmG10
set_option linter.unusedVariables false
set_option linter.unusedSimpArgs false
open Nat renaming reduceAdd→Aaa,reduceBEq→Aab,le_refl→Aap
open List renaming mem_append→Aac,nodup_append→Aad,mem_singleton→Aae,getElem?_append_left→Aaf,take_succ_eq_append_getElem→Aag,length_map→Aah,mem_append_right→Aai,append_assoc→Aaj,foldl_append→Aak,getElem_map→Aal,not_mem_nil→Aam,getElem_mem→Aan,take_length→Aao,mem_cons→Aaq
namespace Go.Proofs.YtolciaflplefcaaGreat
open Go.AM
variable {Γ:bG}
theorem tr{H:AH}{b:Nat}{v:ar}{wE w2 wL w4:AV}{fE f2 fL f4:List Nat}(o:VO H b v wE w2 wL w4 fE f2 fL f4):ou H (.gp b 0 0) (.ip true (v.c true)):=
 (pj.nil o.hb).snap (aM.fk (ar.bO true v) o.own)
theorem Ib{H:AH}{w:AV}{l:List cj}{fp:List Nat}(o:b9 H w (.sl 2 (l.map cj.cd)) fp)(nd:fp.Nodup){j:Nat}(hj:j<l.length):
 ∃qb g n,qb∈fp∧fh 2 w (j:Int)=some (.gp qb g n)∧∀(H':AH) (e:List AV) (L:List (List AV)),H'[qb]? = H[qb]?→(St.mk e L H').cells (.gp qb g n) 2=some [.int .i64 l[j].peer,.int .i64 l[j].question]∧(St.mk e L H').cells (.gp qb g (n+0)) 1=some [.int .i64 l[j].peer]∧(St.mk e L H').cells (.gp qb g (n+1)) 1=some [.int .i64 l[j].question]:=by
 obtain⟨b,g,pre,row,post,f,i1,m,lr,oR,_,_,hb,_⟩:=o.sw nd (k:=j) (by simpa using hj);rw[Aal]at oR;simp only[cj.cd,jv,jy,j6]at oR;obtain⟨_,_,_,_,rfl,rfl,⟨rfl,rfl⟩,⟨_,_,_,_,rfl,rfl,⟨rfl,rfl⟩,⟨rfl,rfl⟩⟩⟩:=oR;refine⟨b,g,pre.length,hb,i1,fun H' e L h=>?_⟩;have m':=m.frame h;refine⟨?_,?_,?_⟩
 ·rw[m'.sH e L 2 (by simp)];rfl
 ·rw[m'.cells e L 0 1 (by simp)];rfl
 ·rw[m'.cells e L 1 1 (by simp)];rfl
theorem Gg:∀(q:List aK) (i:Nat) (h:i<q.length),sM (q.take i)+(2+q[i].args.length)≤sM q
 | [],i,h=>by simp at h
 | a::q,0,h=>by simp[sM]
 | a::q,i+1,h=>by have:=Gg q i (by simpa using h);simp only[sM,List.take_succ_cons,List.map_cons,List.sum_cons,List.getElem_cons_succ]at *;omega
def Mq:C:=(.seq (.regD tB wJ) (.regD wP wT))
def Mw:C:=(.seq (.regD wm wj) (.seq (.seq (.reg [mV 104 0,mG 105 2 11,mC 106 Fn.U7 [.t 104,.t 105]]) (.cond (.t 106) (.seq (.regD wo vX) (.exit 3)) .skip)) (Mq)))
theorem Nt:Ly=.seq (.regD vN we) (.seq (.seq (.reg [mK 9 0]) (.block 0 (.loop (.seq (.seq (.reg [mV 78 9,mF 79 6 7,mL 80 1 79,mN 81 80,mB 82 .lss 78 81]) (.cond (.t 82) .skip (.exit 0))) (.seq (.block 1 (.reg [mV 85 0,mF 86 6 7,mL 87 1 86,mV 88 9,mX 89 7 87 88,mG 90 7 89,mC 91 Fn.Tv [.t 85,.t 90]])) (.reg [mV 83 9,mI 84 .add 83 1,mV 9 84])))))) (.seq (.reg [mK 10 0]) (.block 2 (.loop (.seq (.seq (.reg [mV 92 10,mF 93 7 7,mL 94 1 93,mN 95 94,mB 96 .lss 92 95]) (.cond (.t 96) .skip (.exit 2))) (.seq (.block 3 (Mw)) (.reg [mV 97 10,mI 98 .add 97 1,mV 10 98]))))))):=rfl
set_option maxHeartbeats 8000000 in
set_option maxRecDepth 100000 in
theorem L3{n:Nat}(hD:Ft Γ n)(v:ar)(p:Int)(x:an)(hmu:mJ v≤n)(hvi:VI v)(hw:wV v≤500000)(H:AH){b:Nat}{f:List Nat}(a:jr H b v f):
    T Tryz.prog Γ Fn.kcJ [.gp b 0 0,.int .i64 p,.agg (x.c false)] H fun r H'=>r=.tup []∧e9 H b (fun c=>c∈f) H' (dD (aT n) v p x):=by
  obtain⟨wE,w2,wL,w4,fE,f2,fL,f4,rfl,o⟩:=a
  have hE:v.entities.length≤1048576:=by have:=hvi.fH;omega
  have hb:=o.hb
  have blt:=o.blt
  have vlt:=o.lt
  have cb:=VO.Cp hb
  obtain⟨a1,a2,a3,a4⟩:=o.oE.cell
  obtain⟨b1,b2,b3,b4⟩:=o.o2.cell
  obtain⟨c1,c2,c3,c4⟩:=o.oL.cell
  obtain⟨d1,d2,d3,d4⟩:=o.o4.cell
  obtain⟨_,lE⟩:=dc o.oE
  rw[Aah]at lE
  refine ZM (aC aG mixed [] _ _ _ ?_)
  rw[TE]
  unfold Mf
  cases e1:bB p v.entities.length
  · have nf:dD (aT n) v p x=v:=by simp[dD,pd,e1]
    rw[nf]
    simp only[au,Aaa,Aab,il,cu,cw,cC,cB,cq,cr,cD,bC,an.c,cb,a1,a2,a3,b1,b2,b3,c1,c2,c3,d1,d2,d3,lE,ag,ae]
    refine al.val (by simp only[EO]) (gQ _ _ _ _) ?_
    rw[fG _ hE,e1]
    simp only[au,Aaa,Aab,il,cu,cw,cC,cB,cq,cr,cD,bC,cb,a1,a2,a3,b1,b2,b3,c1,c2,c3,d1,d2,d3,lE,ag,ae]
    exact⟨rfl,rfl,e9.refl o.at fun c hc=>hc⟩
  obtain⟨k,hk,ek,ek2,eA⟩:=cL e1
  obtain⟨r,hr⟩:∃r,r=aD v p:=⟨_,rfl⟩
  rw[←hr]at eA
  obtain⟨bR,gR,nR,row,fR,iR,rR,lR,oR,nfR,sR,bmR,bnR,wrR⟩:=o.jY hk
  rw[←eA]at oR
  have seeR:ou H (.agg row) (.agg (r.c true)):=aM.fk (aA.bO true r) oR
  obtain⟨wS,wQ,wA,fS,fQ,fA,rfl,rfl,oS,oQ,oA⟩:=c5 oR
  obtain⟨x1,x2,x3,x4⟩:=oS.cell
  obtain⟨x5,x6,x7,x8⟩:=oQ.cell
  obtain⟨x9,xa,xb,xc⟩:=oA.cell
  cases t1:rQ r
  · have nf:dD (aT n) v p x=v:=by simp[dD,pd,e1,←hr,t1]
    rw[nf]
    simp only[au,Aaa,Aab,il,cu,cw,cC,cB,cq,cr,cD,bC,an.c,cb,a1,a2,a3,b1,b2,b3,c1,c2,c3,d1,d2,d3,lE,ag,ae]
    refine al.val (by simp only[EO]) (gQ _ _ _ _) ?_
    rw[fG _ hE,e1]
    simp only[au,Aaa,Aab,il,cu,cw,cC,cB,cq,cr,cD,bC,cb,a1,a2,a3,b1,b2,b3,c1,c2,c3,d1,d2,d3,lE,ag,ae,ek,iR,rR,x1,x2,x3,x5,x6,x7,x9,xa,xb]
    refine al.fk (by simp only[EO,x3,x7,xb]) (aI seeR aZ) (fun h=>JJ true r h) (.bool _) ?_
    rw[t1]
    simp only[au,Aaa,Aab,il,cu,cw,cC,cB,cq,cr,cD,bC]
    exact⟨rfl,rfl,e9.refl o.at fun c hc=>hc⟩
  have yes:pd v p=true:=by rw[pd,e1,←hr,t1];rfl
  obtain⟨y,hy⟩:∃y,y=vC v p x:=⟨_,rfl⟩
  have yf:dD (aT n) v p x=r.askers.foldl (bF y) (r.queue.foldl (aT n) (ky v p x)):=by rw[dD,if_pos yes,←hr,←hy]
  simp only[au,Aaa,Aab,il,cu,cw,cC,cB,cq,cr,cD,bC,an.c,cb,a1,a2,a3,b1,b2,b3,c1,c2,c3,d1,d2,d3,lE,ag,ae]
  refine al.val (by simp only[EO]) (gQ _ _ _ _) ?_
  rw[fG _ hE,e1]
  simp only[au,Aaa,Aab,il,cu,cw,cC,cB,cq,cr,cD,bC,cb,a1,a2,a3,b1,b2,b3,c1,c2,c3,d1,d2,d3,lE,ag,ae,ek,iR,rR,x1,x2,x3,x5,x6,x7,x9,xa,xb]
  refine al.fk (by simp only[EO,x3,x7,xb]) (aI seeR aZ) (fun h=>JJ true r h) (.bool _) ?_
  rw[t1]
  simp only[au,Aaa,Aab,il,cu,cw,cC,cB,cq,cr,cD,bC]
  unfold Ke
  obtain⟨y0,hy0⟩:∃y0,y0=cO v x:=⟨_,rfl⟩
  obtain⟨R1,hR1⟩:∃R:St→Prop,R=fun zst=>∃g:Nat→AV,zst=⟨(List.range 156).map g,([]:List (List AV))++[[.int .i64 x.kind,.int .i64 x.n]]++[[.int .i64 y0.kind,.int .i64 y0.n]],H⟩∧(g 0=.gp b 0 0∧g 1=.int .i64 k∧g 5=(.lp ([]:List (List AV)).length 0)∧g 6=(.lp (([]:List (List AV)).length+1) 0)):=⟨_,rfl⟩
  refine BN R1 ?_ ?_
  · simp only[au,Aaa,Aab,il,cu,cw,cC,cB,cq,cr,cD,bC,cb,a1,a2,a3,b1,b2,b3,c1,c2,c3,d1,d2,d3,jt]
    repeat' (first
      | (guard_target =~ Mem _ _;first|exact Mem.loc ⟨_,([]:List (List AV))++[_]++[_],_⟩ _ [_]|exact Mem.loc ⟨_,([]:List (List AV))++[_],_⟩ _ [_]|exact eg.mem _ _ _)
      | (guard_target =~ jB _ _ _;first|exact gI rfl|exact jZ (L':=[_]) rfl)
      | (guard_target =~ al _ _ Fn.El _ _ _
         refine al.fk (by simp only[EO,a3,b3,c3,d3]) (aI (aM.fk (ar.bO true v) o.own) (aI (.same _) aZ)) (fun h=>ux true v hE x h) (.agg _ (by intro z hz;simp only[an.c,Aaq,Aam,or_false]at hz;rcases hz with rfl|rfl<;>exact .int _ _)) ?_
         rw[←hy0]
         simp only[au,Aaa,Aab,il,cu,cw,cC,cB,cq,cr,cD,bC,an.c,cb,a1,a2,a3,b1,b2,b3,c1,c2,c3,d1,d2,d3,jt])
      | (rw[hR1];exact⟨qv _,rA rfl,⟨rfl,rfl,rfl,rfl⟩⟩)
      | refine And.intro ?_ ?_)
  intro zst hzst
  rw[hR1]at hzst
  clear hR1
  obtain⟨g,rfl,⟨eg0,eg1,eg5,eg6⟩⟩:=hzst
  rw[show(List.range 156).map g=g 0::g 1::g 2::g 3::g 4::g 5::g 6::g 7::g 8::g 9::g 10::g 11::g 12::g 13::g 14::g 15::g 16::g 17::g 18::g 19::g 20::g 21::g 22::g 23::g 24::g 25::g 26::g 27::g 28::g 29::g 30::g 31::g 32::g 33::g 34::g 35::g 36::g 37::g 38::g 39::g 40::g 41::g 42::g 43::g 44::g 45::g 46::g 47::g 48::g 49::g 50::g 51::g 52::g 53::g 54::g 55::g 56::g 57::g 58::g 59::g 60::g 61::g 62::g 63::g 64::g 65::g 66::g 67::g 68::g 69::g 70::g 71::g 72::g 73::g 74::g 75::g 76::g 77::g 78::g 79::g 80::g 81::g 82::g 83::g 84::g 85::g 86::g 87::g 88::g 89::g 90::g 91::g 92::g 93::g 94::g 95::g 96::g 97::g 98::g 99::g 100::g 101::g 102::g 103::g 104::g 105::g 106::g 107::g 108::g 109::g 110::g 111::g 112::g 113::g 114::g 115::g 116::g 117::g 118::g 119::g 120::g 121::g 122::g 123::g 124::g 125::g 126::g 127::g 128::g 129::g 130::g 131::g 132::g 133::g 134::g 135::g 136::g 137::g 138::g 139::g 140::g 141::g 142::g 143::g 144::g 145::g 146::g 147::g 148::g 149::g 150::g 151::g 152::g 153::g 154::g 155::[] from rfl]
  simp only[eg0,eg1,eg5,eg6]
  have eqV:∀x y:an,fg .eql (.agg [.int .i64,.int .i64]) (.agg [.int .i64 x.kind,.int .i64 x.n]) (.agg [.int .i64 y.kind,.int .i64 y.n])=some (.bool (decide (x=y))):=fun x y=>by rw[dV];simp only[an.dec]
  have eqP:∀(x:an),fg .eql (.agg [.int .i64,.int .i64]) (.agg [.int .i64 x.kind,.int .i64 x.n]) (.agg [.int .i64 1,.int .i64 (k:Int)])=some (.bool (decide (x=⟨1,p⟩))):=fun x=>by rw[ek];exact eqV x ⟨1,k⟩
  have ey:y=if (nB y0 v.entities.length && !decide (y0=⟨1,p⟩))=true then y0 else bd:=by rw[hy,vC,hy0]
  obtain⟨R2,hR2⟩:∃R:St→Prop,R=fun zst=>∃g:Nat→AV,zst=⟨(List.range 156).map g,([]:List (List AV))++[[.int .i64 x.kind,.int .i64 x.n]]++[[.int .i64 y.kind,.int .i64 y.n]],H⟩∧(g 0=.gp b 0 0∧g 1=.int .i64 k∧g 6=(.lp (([]:List (List AV)).length+1) 0)):=⟨_,rfl⟩
  refine BN R2 ?_ ?_
  · cases u1:nB y0 v.entities.length
    · have ey':y=bd:=by rw[ey,u1];rfl
      simp only[au,Aaa,Aab,il,cu,cw,cC,cB,cq,cr,cD,bC,an.c,cb,a1,a2,a3,b1,b2,b3,c1,c2,c3,d1,d2,d3,lE,jt]
      refine al.val (by simp only[EO]) (HN false y0 _ hE _) ?_
      rw[u1]
      simp only[au,Aaa,Aab,il,cu,cw,cC,cB,cq,cr,cD,bC,an.c,cb,a1,a2,a3,b1,b2,b3,c1,c2,c3,d1,d2,d3,lE,jt]
      refine al.val (by simp only[EO]) (xP _) ?_
      simp only[au,Aaa,Aab,il,cu,cw,cC,cB,cq,cr,cD,bC,an.c,bd,jt]
      rw[ey',bd]at hR2
      (rw[hR2];exact⟨qv _,rA rfl,⟨rfl,rfl,rfl⟩⟩)
    · by_cases u2:y0=⟨1,p⟩
      · have ey':y=bd:=by rw[ey,u1,aR u2];rfl
        simp only[au,Aaa,Aab,il,cu,cw,cC,cB,cq,cr,cD,bC,an.c,cb,a1,a2,a3,b1,b2,b3,c1,c2,c3,d1,d2,d3,lE,jt]
        refine al.val (by simp only[EO]) (HN false y0 _ hE _) ?_
        rw[u1]
        simp only[au,Aaa,Aab,il,cu,cw,cC,cB,cq,cr,cD,bC,an.c,cb,a1,a2,a3,b1,b2,b3,c1,c2,c3,d1,d2,d3,lE,jt]
        refine al.val (by simp only[EO]) (Az _ _) ?_
        simp only[au,Aaa,Aab,il,cu,cw,cC,cB,cq,cr,cD,bC,an.c,eqP,aR u2,jt]
        refine al.val (by simp only[EO]) (xP _) ?_
        simp only[au,Aaa,Aab,il,cu,cw,cC,cB,cq,cr,cD,bC,an.c,bd,jt]
        rw[ey',bd]at hR2
        (rw[hR2];exact⟨qv _,rA rfl,⟨rfl,rfl,rfl⟩⟩)
      · have ey':y=y0:=by rw[ey,u1,aW u2];rfl
        simp only[au,Aaa,Aab,il,cu,cw,cC,cB,cq,cr,cD,bC,an.c,cb,a1,a2,a3,b1,b2,b3,c1,c2,c3,d1,d2,d3,lE,jt]
        refine al.val (by simp only[EO]) (HN false y0 _ hE _) ?_
        rw[u1]
        simp only[au,Aaa,Aab,il,cu,cw,cC,cB,cq,cr,cD,bC,an.c,cb,a1,a2,a3,b1,b2,b3,c1,c2,c3,d1,d2,d3,lE,jt]
        refine al.val (by simp only[EO]) (Az _ _) ?_
        simp only[au,Aaa,Aab,il,cu,cw,cC,cB,cq,cr,cD,bC,an.c,eqP,aW u2,jt]
        rw[ey']at hR2
        (rw[hR2];exact⟨qv _,rA rfl,⟨rfl,rfl,rfl⟩⟩)
  intro zst hzst
  rw[hR2]at hzst
  clear hR2
  obtain⟨g,rfl,⟨eg0,eg1,eg6⟩⟩:=hzst
  rw[show(List.range 156).map g=g 0::g 1::g 2::g 3::g 4::g 5::g 6::g 7::g 8::g 9::g 10::g 11::g 12::g 13::g 14::g 15::g 16::g 17::g 18::g 19::g 20::g 21::g 22::g 23::g 24::g 25::g 26::g 27::g 28::g 29::g 30::g 31::g 32::g 33::g 34::g 35::g 36::g 37::g 38::g 39::g 40::g 41::g 42::g 43::g 44::g 45::g 46::g 47::g 48::g 49::g 50::g 51::g 52::g 53::g 54::g 55::g 56::g 57::g 58::g 59::g 60::g 61::g 62::g 63::g 64::g 65::g 66::g 67::g 68::g 69::g 70::g 71::g 72::g 73::g 74::g 75::g 76::g 77::g 78::g 79::g 80::g 81::g 82::g 83::g 84::g 85::g 86::g 87::g 88::g 89::g 90::g 91::g 92::g 93::g 94::g 95::g 96::g 97::g 98::g 99::g 100::g 101::g 102::g 103::g 104::g 105::g 106::g 107::g 108::g 109::g 110::g 111::g 112::g 113::g 114::g 115::g 116::g 117::g 118::g 119::g 120::g 121::g 122::g 123::g 124::g 125::g 126::g 127::g 128::g 129::g 130::g 131::g 132::g 133::g 134::g 135::g 136::g 137::g 138::g 139::g 140::g 141::g 142::g 143::g 144::g 145::g 146::g 147::g 148::g 149::g 150::g 151::g 152::g 153::g 154::g 155::[] from rfl]
  simp only[eg0,eg1,eg6]
  simp only[au,Aaa,Aab,il,cu,cw,cC,cB,cq,cr,cD,bN,an.c,cb,a1,a2,a3,b1,b2,b3,c1,c2,c3,d1,d2,d3,lE,iR,rR,x1,x2,x3,x5,x6,x7,x9,xa,xb]
  rw[Nt]
  obtain⟨H6,hH6⟩:∃H6,H6=H++[some (0,([]:List AV))]++[some (0,[])]:=⟨_,rfl⟩
  have l6:H6.length=H.length+2:=by rw[hH6];simp
  have f6:∀c,c<H.length→H6[c]? = H[c]?:=fun c hc=>by rw[hH6,Aaj,Aaf hc]
  rw[←hH6]
  have cb6:∀(e:List AV) (L:List (List AV)) (off n:Nat),(St.mk e L H6).cells (.gp b 0 off) n=sub [.int .i64 v.id,wE,w2,wL,w4] off n:=fun e L off n=>by rw[b8 (by rw[bc (f6 b blt)];exact hb)]
  have oN7:b9 H6 (.gs H.length 0 0 0 0 7 true) (.sl 7 (([]:List aK).map aK.cd)) [H.length]:=by
    rw[hH6];exact(gn H 7).frame fun c hc=>by rw[Aae.1 hc,Aaf (by simp)]
  have oN2:b9 H6 (.gs (H++[some (0,([]:List AV))]).length 0 0 0 0 2 true) (.sl 2 (([]:List cj).map cj.cd)) [H.length+1]:=by
    rw[hH6]
    have:=gn (H++[some (0,([]:List AV))]) 2
    have e1:(H++[some (0,([]:List AV))]).length=H.length+1:=by simp
    rw[e1]at this ⊢
    exact this
  obtain⟨nS6,nQA6,dS6⟩:=Aad.1 nfR
  obtain⟨nQ6,nA6,dQ6⟩:=Aad.1 nQA6
  have lo6:∀c,c∈fS++(fQ++fA)→c<H.length:=fun c hc=>vlt c (aO.2 (.inl (sR c hc)))
  obtain⟨_,H7,f7,s7,l7,r7,o7,m7⟩:=wrR H6 0 [.int .i64 r.kind,.int .i64 r.script,wS,.int .i64 2,.int .i64 y.kind,.int .i64 y.n,.gs H.length 0 0 0 0 7 true,.gs (H++[some (0,([]:List AV))]).length 0 0 0 0 2 true,.int .i64 0,.int .i64 0,.int .i64 0,.int .i64 r.sent] (lJ r y) (fS++([H.length]++[H.length+1])) [] (by omega) (fun c hc=>by cases hc) (fun c hc _ _=>f6 c hc) (by simp)
    (by simp only[je,jg,x3];rfl)
    (by
      have:=jo (e:=lJ r y) (oS.frame fun c hc=>f6 c (lo6 c (by simp[hc]))) oN7 oN2
      exact this)
    (Aad.2 ⟨nS6,by simp,fun x hx y hy e=>by
      have:=lo6 x (by simp[hx]);simp only[Aac,Aae]at hy;omega⟩)
    (fun c hc=>by
      simp only[Aac,Aae]at hc
      rcases hc with g|g
      · exact .inl (by simp[g])
      · exact .inr (.inr (by omega)))
  rw[Nat.add_zero]at s7
  have ev7:({ v with entities:=v.entities.set k (lJ r y) }:ar)=ky v p x:=by
    rw[ky,cT,←hr,←hy,ek2]
  rw[ev7]at o7
  simp only[au,Aaa,Aab,il,cu,cw,cC,cB,cq,cr,cD,bC,cb6,a1,a2,a3,b1,b2,b3,c1,c2,c3,d1,d2,d3,iR,x1,x2,x3,x5,x6,x7,x9,xa,xb,s7]
  have fQ7:∀c∈fQ++fA,c∉f7∧c≠b∧c<H.length∧c∈fE∧c≠bR:=fun c hc=>by
    have hc':c∈fS++(fQ++fA):=Aai _ hc
    have hl:=lo6 c hc'
    refine⟨fun h=>?_,fun e=>o.bE (e▸sR c hc'),hl,sR c hc',fun e=>bnR (e▸hc')⟩
    rcases m7 c h with⟨_,g⟩|g
    · exact g hc'
    · simp only[Aac,Aae]at g
      rcases g with q|q
      · exact dS6 c q c hc rfl
      · omega
  have e7:∀c∈fQ++fA,H7[c]? = H[c]?:=fun c hc=>by
    obtain⟨_,_,h1,_,h2⟩:=fQ7 c hc
    rw[r7 c h2,f6 c h1]
  have oq7:b9 H7 wQ (.sl 7 (r.queue.map aK.cd)) fQ:=oQ.frame fun c hc=>e7 c (by simp[hc])
  have oa7:b9 H7 wA (.sl 2 (r.askers.map cj.cd)) fA:=oA.frame fun c hc=>e7 c (by simp[hc])
  have lq:=(dc oq7).2
  have la:=(dc oa7).2
  rw[Aah]at lq la
  obtain⟨ptr,rws,fpr,qb,hrows⟩:=oq7.rows nQ6
  obtain⟨k1,k2,k3,k4⟩:=zS yes x
  rw[←hr]at k2
  have hq100:∀x∈r.queue,x.ok 100:=by rw[hr];exact(gZ hvi p).2
  obtain⟨F,hF⟩:∃F:Nat→Prop,F=fun c=>c∈dh fE f2 fL f4:=⟨_,rfl⟩
  have FE:∀c∈fE,F c:=fun c hc=>by rw[hF];exact aO.2 (.inl hc)
  have f7F:∀c∈f7,F c∨H.length≤c:=fun c hc=>by
    rcases m7 c hc with⟨g,_⟩|g
    · exact .inl (by rw[hF];exact g)
    · simp only[Aac,Aae]at g
      rcases g with q|q
      · exact .inl (FE c (sR c (by simp[q])))
      · exact .inr (by omega)
  have fr7:∀c,¬F c→c≠b→c<H.length→H7[c]? = H[c]?:=fun c h1 h2 h3=>by
    rw[r7 c (fun e=>h1 (FE c (e▸bmR))),f6 c h3]
  refine fD aG mixed [] (fun x':Nat×AH×List Nat=>x'.1≤r.queue.length∧jr x'.2.1 b ((r.queue.take x'.1).foldl (aT n) (ky v p x)) x'.2.2∧H.length≤x'.2.1.length∧(∀c∈x'.2.2,F c∨H.length≤c)∧(∀c,¬F c→c≠b→c<H.length→x'.2.1[c]? = H[c]?)∧(∀c∈fQ,(c=qb∨∃j,x'.1≤j∧j<r.queue.length∧c∈fpr j)→x'.2.1[c]? = H7[c]?∧c∉x'.2.2)∧(∀c∈fA,x'.2.1[c]? = H7[c]?∧c∉x'.2.2)) (fun x'=>r.queue.length-x'.1)
    (fun x'=>Ew (.gp b 0 0) (.lp (([]:List (List AV)).length+1) 0) (.lp (([]:List (List AV)).length+2) 0) (.int .i64 x'.1) _ x'.2.1) (0,H7,f7) ⟨by simp,o7,by simp only;omega,f7F,fr7,fun c hc _=>⟨rfl,(fQ7 c (by simp[hc])).1⟩,fun c hc=>⟨rfl,(fQ7 c (by simp[hc])).1⟩⟩ ⟨by simp[Ew,gW,gM],rfl,rfl⟩ ?_
  rintro⟨i,Hi,fi⟩ ⟨hi,oi,li,mi,ri,qi,ai⟩
  simp only at hi oi li mi ri qi ai
  simp only[au,Aaa,Aab,il,cu,cw,cC,cB,cq,cr,cD,Ew,bC,lq]
  refine bz (fun hlt=>?_) (fun hge=>?_)
  · have hlt:i<r.queue.length:=by simpa using hlt
    obtain⟨p1,p2,p3,p4,p5,p6,p7⟩:=hrows i (by simpa using hlt)
    rw[Aal]at p3
    obtain⟨wa',er,oa'⟩:=ku p3
    have cR:∀(e:List AV) (L:List (List AV)),(St.mk e L Hi).cells (ptr i) 7=some (rws i):=fun e L=>p2 Hi e L (qi qb p6 (.inl rfl)).1
    rw[er]at cR p3
    have pi:aM Hi _ _ (fpr i):=p3.frame fun c hc=>(qi c (p5 c hc).1 (.inr ⟨i,Aap _,hlt,hc⟩)).1
    obtain⟨t1',t2',t3',t4'⟩:=oa'.cell
    obtain⟨fk1,fk2,fk3,fk4⟩:=nj (gr n) (r.queue.take i) (ky v p x)
    have wti:=Gg r.queue i hlt
    have wq:sM r.queue+2*r.askers.length=oq r:=rfl
    simp only[au,Aaa,Aab,il,cu,cw,cC,cB,cq,cr,cD,bC,p1,cR,lq]
    refine al.ref (by simp only[EO,t3',t4']) (hD _ r.queue[i] Hi b fi _ (fpr i) (by omega) (fk4 (k4 hvi) fun x hx=>hq100 x (List.mem_of_mem_take hx)) (hq100 _ (Aan hlt)) (by omega) oi pi p4 (fun c hc=>⟨(qi c (p5 c hc).1 (.inr ⟨i,Aap _,hlt,hc⟩)).2,(fQ7 c (by simp[(p5 c hc).1])).2.1⟩)) ?_
    rintro _ H9 ⟨rfl,f9,o9,l9,m9,r9⟩
    replace o9:jr H9 b _ f9:=o9
    replace l9:Hi.length≤H9.length:=l9
    replace r9:∀c,¬(c∈fi∨c∈fpr i)→c≠b→c<Hi.length→H9[c]? = Hi[c]?:=r9
    simp only[au,Aaa,Aab,il,cu,cw,cC,cB,cq,cr,cD]
    have ts:(r.queue.take (i+1)).foldl (aT n) (ky v p x)=aT n ((r.queue.take i).foldl (aT n) (ky v p x)) r.queue[i]:=by
      rw[Aag hlt,Aak];rfl
    refine⟨(i+1,H9,f9),⟨hlt,by simp only;rw[ts];exact o9,by simp only;omega,fun c hc=>?_,fun c h1 h2 h3=>?_,fun c hc hj=>?_,fun c hc=>?_⟩,by simp only;omega,⟨by rw[wN (by have:=(vV r.queue);omega)];simp[Ew,gW,gM],rfl,rfl⟩⟩
    · rcases m9 c hc with(g|g)|g
      · exact mi c g
      · exact .inl (FE c (fQ7 c (by simp[(p5 c g).1])).2.2.2.1)
      · exact .inr (by omega)
    · simp only
      rw[r9 c (fun h=>by
        rcases h with g|g
        · rcases mi c g with q|q
          · exact h1 q
          · omega
        · exact h1 (FE c (fQ7 c (by simp[(p5 c g).1])).2.2.2.1)) h2 (by omega),ri c h1 h2 h3]
    · simp only at hj ⊢
      have hj':c=qb∨∃j,i≤j∧j<r.queue.length∧c∈fpr j:=hj.imp id fun⟨j,a,b,c⟩=>⟨j,by omega,b,c⟩
      obtain⟨e1,e2⟩:=qi c hc hj'
      obtain⟨_,e3,e4,_⟩:=fQ7 c (by simp[hc])
      have e5:c∉fpr i:=fun h=>by
        rcases hj with g|⟨j,g1,g2,g3⟩
        · exact(p5 c h).2 g
        · exact p7 j (by simpa using g2) (by omega) c h g3
      refine⟨by rw[r9 c (fun h=>h.elim e2 e5) e3 (by omega),e1],fun h=>?_⟩
      rcases m9 c h with(g|g)|g
      · exact e2 g
      · exact e5 g
      · omega
    · simp only
      obtain⟨e1,e2⟩:=ai c hc
      obtain⟨_,e3,e4,_⟩:=fQ7 c (by simp[hc])
      have e5:c∉fpr i:=fun h=>dQ6 c (p5 c h).1 c hc rfl
      refine⟨by rw[r9 c (fun h=>h.elim e2 e5) e3 (by omega),e1],fun h=>?_⟩
      rcases m9 c h with(g|g)|g
      · exact e2 g
      · exact e5 g
      · omega
  have hge:i=r.queue.length:=by simp at hge;omega
  subst hge
  rw[Aao]at oi
  clear qi
  obtain⟨v2,hv2⟩:∃v2,v2=r.queue.foldl (aT n) (ky v p x):=⟨_,rfl⟩
  rw[←hv2]at oi
  obtain⟨fk1,fk2,fk3,fk4⟩:=nj (gr n) r.queue (ky v p x)
  rw[←hv2]at fk1 fk2 fk3 fk4
  replace fk4:=fk4 (k4 hvi) hq100
  have wq:sM r.queue+2*r.askers.length=oq r:=rfl
  have w2:wV v2+2*r.askers.length≤500000:=by omega
  have yf':r.askers.foldl (bF y) v2=dD (aT n) v p x:=by rw[yf,hv2]
  rw[ek]at yf'
  clear hrows eqP eqV ey
  simp only[au,Aaa,Aab,il,cu,cw,cC,cB,cq,cr,cD]
  refine WT aG [] (fun x':Nat×AH×List Nat×List (List AV)=>x'.1≤r.askers.length∧jr x'.2.1 b ((r.askers.take x'.1).foldl (bF y) v2) x'.2.2.1∧H.length≤x'.2.1.length∧(∀c∈x'.2.2.1,F c∨H.length≤c)∧(∀c,¬F c→c≠b→c<H.length→x'.2.1[c]? = H[c]?)∧(∀c∈fA,x'.2.1[c]? = H7[c]?∧c∉x'.2.2.1)∧∃l0 l3 E,x'.2.2.2=([]:List (List AV))++[l0,[.int .i64 y.kind,.int .i64 y.n],[.int .i64 r.kind,.int .i64 r.script,wS,.int .i64 r.state,.int .i64 r.value.kind,.int .i64 r.value.n,wQ,wA,.int .i64 r.peer,.int .i64 r.pos,.int .i64 r.count,.int .i64 r.sent],l3]++E) (fun x'=>r.askers.length-x'.1)
    (fun x'=>BM (.gp b 0 0) (.lp (([]:List (List AV)).length+1) 0) (.lp (([]:List (List AV)).length+2) 0) (.int .i64 x'.1) x'.2.2.2 x'.2.1) (0,Hi,fi,_) ⟨by simp,oi,li,mi,ri,ai,_,_,[],rfl⟩ ⟨by simp[BM,gW,gM],rfl,rfl⟩ ?_
  clear ai ri mi li oi hi
  rintro⟨j,Hj,fj,L⟩ ⟨hj,aj,lj,mj,rj,qj,l0,l3,E,hLL⟩
  simp only at hj aj lj mj rj qj hLL
  have lp1:∀(e:List AV) (h:AH) (off n:Nat),(St.mk e L h).cells (.lp (([]:List (List AV)).length+1) off) n=sub [.int .i64 y.kind,.int .i64 y.n] off n:=fun e h off n=>by subst hLL;rfl
  have lp1':∀(e:List AV) (h:AH) (X:List (List AV)) (off n:Nat),(St.mk e (L++X) h).cells (.lp (([]:List (List AV)).length+1) off) n=sub [.int .i64 y.kind,.int .i64 y.n] off n:=fun e h X off n=>by subst hLL;rfl
  have lp2:∀(e:List AV) (h:AH) (off n:Nat),(St.mk e L h).cells (.lp (([]:List (List AV)).length+2) off) n=sub [.int .i64 r.kind,.int .i64 r.script,wS,.int .i64 r.state,.int .i64 r.value.kind,.int .i64 r.value.n,wQ,wA,.int .i64 r.peer,.int .i64 r.pos,.int .i64 r.count,.int .i64 r.sent] off n:=fun e h off n=>by subst hLL;rfl
  have lp2':∀(e:List AV) (h:AH) (X:List (List AV)) (off n:Nat),(St.mk e (L++X) h).cells (.lp (([]:List (List AV)).length+2) off) n=sub [.int .i64 r.kind,.int .i64 r.script,wS,.int .i64 r.state,.int .i64 r.value.kind,.int .i64 r.value.n,wQ,wA,.int .i64 r.peer,.int .i64 r.pos,.int .i64 r.count,.int .i64 r.sent] off n:=fun e h X off n=>by subst hLL;rfl
  have hLX:∀X:List (List AV),∃l0 l3 E,L++X=([]:List (List AV))++[l0,[.int .i64 y.kind,.int .i64 y.n],[.int .i64 r.kind,.int .i64 r.script,wS,.int .i64 r.state,.int .i64 r.value.kind,.int .i64 r.value.n,wQ,wA,.int .i64 r.peer,.int .i64 r.pos,.int .i64 r.count,.int .i64 r.sent],l3]++E:=fun X=>⟨l0,l3,E++X,by rw[hLL,Aaj]⟩
  clear hLL
  refine HB aG mixed ?_
  simp only[au,Aaa,Aab,il,cu,cw,cC,cB,cq,cr,cD,BM,bC,la,lp1,lp2]
  refine bz (fun hlt=>?_) (fun hge=>?_)
  rotate_left
  · have hge:j=r.askers.length:=by simp at hge;omega
    subst hge
    rw[Aao,yf']at aj
    simp only[au,Aaa,Aab,il,cu,cw,cC,cB,cq,cr,cD]
    have fin:e9 H b (fun c=>c∈dh fE f2 fL f4) Hj (dD (aT n) v (k:Int) x):=⟨fj,aj,lj,by rw[hF]at mj;exact mj,by rw[hF]at rj;exact rj⟩
    exact⟨rfl,rfl,fin⟩
  have hlt:j<r.askers.length:=by simpa using hlt
  obtain⟨qa,ga,na,qm,i2,cA⟩:=Ib oa7 nA6 hlt
  obtain⟨ak,hak⟩:∃ak,ak=r.askers[j]:=⟨_,rfl⟩
  rw[←hak]at cA
  have cA1:=fun e L=>(cA Hj e L (qj qa qm).1).1
  have cA2:=fun e L=>(cA Hj e L (qj qa qm).1).2.1
  have cA3:=fun e L=>(cA Hj e L (qj qa qm).1).2.2
  obtain⟨vj,hvj⟩:∃vj,vj=(r.askers.take j).foldl (bF y) v2:=⟨_,rfl⟩
  have ts:(r.askers.take (j+1)).foldl (bF y) v2=bF y vj ak:=by
    rw[Aag hlt,Aak,←hvj,hak];rfl
  obtain⟨ck1,ck2,ck3,ck4⟩:=wG y (r.askers.take j) v2
  rw[←hvj]at ck1 ck2 ck3 ck4 aj
  rw[List.length_take,Nat.min_eq_left (by omega)]at ck2
  have vij:=ck4 fk4
  have hEj:vj.entities.length≤1048576:=by have:=vij.fH;omega
  have hLj:vj.aq.length≤1048576:=by have:=vij.aq;omega
  clear hvj ck1 ck3 ck4
  obtain⟨wE',w2',wL',w4',fE',f2',fL',f4',rfl,oj⟩:=aj
  have hbj:=oj.hb
  have bltj:=oj.blt
  have vltj:=oj.lt
  have cbj:∀(e:List AV) (L:List (List AV)) (off n:Nat),(St.mk e L Hj).cells (.gp b 0 off) n=sub [.int .i64 vj.id,wE',w2',wL',w4'] off n:=fun e L off n=>b8 hbj
  obtain⟨aa1,aa2,aa3,aa4⟩:=oj.oE.cell
  obtain⟨bb1,bb2,bb3,bb4⟩:=oj.o2.cell
  obtain⟨cc1,cc2,cc3,cc4⟩:=oj.oL.cell
  obtain⟨dd1,dd2,dd3,dd4⟩:=oj.o4.cell
  obtain⟨z,hz⟩:∃z,z=cO vj y:=⟨_,rfl⟩
  simp only[au,Aaa,Aab,il,cu,cw,cC,cB,cq,cr,cD]
  refine Lr aG mixed ?_
  unfold Mw
  obtain⟨R3,hR3⟩:∃R:St→Prop,R=fun zst=>∃g:Nat→AV,zst=⟨(List.range 156).map g,L++[[.int .i64 z.kind,.int .i64 z.n]],Hj⟩∧(g 0=.gp b 0 0∧g 6=(.lp (([]:List (List AV)).length+1) 0)∧g 7=(.lp (([]:List (List AV)).length+2) 0)∧g 10=.int .i64 j∧g 11=.lp L.length 0):=⟨_,rfl⟩
  refine Ma aG mixed R3 ?_ ?_
  · simp only[au,Aaa,Aab,il,cu,cw,cC,cB,cq,cr,cD,bC,an.c,cbj,aa1,aa2,aa3,bb1,bb2,bb3,cc1,cc2,cc3,dd1,dd2,dd3,lp1,lp2,lp1',lp2',jt]
    repeat' (first
      | (guard_target =~ Mem _ _;first|exact Mem.loc ⟨_,L,_⟩ _ [_]|exact Mem.loc ⟨_,L++[_],_⟩ _ [_]|exact eg.mem _ _ _)
      | (guard_target =~ jB _ _ _;first|exact gI rfl|exact jZ (L':=[_]) rfl)
      | (guard_target =~ al _ _ Fn.El _ _ _
         refine al.fk (by simp only[EO,aa3,bb3,cc3,dd3]) (aI (aM.fk (ar.bO true vj) oj.own) (aI (.same _) aZ)) (fun h=>ux true vj hEj y h) (.agg _ (by intro z hz;simp only[an.c,Aaq,Aam,or_false]at hz;rcases hz with rfl|rfl<;>exact .int _ _)) ?_
         rw[←hz]
         simp only[au,Aaa,Aab,il,cu,cw,cC,cB,cq,cr,cD,bC,an.c,cbj,aa1,aa2,aa3,bb1,bb2,bb3,cc1,cc2,cc3,dd1,dd2,dd3,lp1,lp2,lp1',lp2',jt])
      | (rw[hR3];exact⟨qv _,rA rfl,⟨rfl,rfl,rfl,rfl,rfl⟩⟩)
      | refine And.intro ?_ ?_)
  intro zst hzst
  rw[hR3]at hzst
  clear hR3
  obtain⟨g,rfl,⟨eg0,eg6,eg7,eg10,eg11⟩⟩:=hzst
  rw[show(List.range 156).map g=g 0::g 1::g 2::g 3::g 4::g 5::g 6::g 7::g 8::g 9::g 10::g 11::g 12::g 13::g 14::g 15::g 16::g 17::g 18::g 19::g 20::g 21::g 22::g 23::g 24::g 25::g 26::g 27::g 28::g 29::g 30::g 31::g 32::g 33::g 34::g 35::g 36::g 37::g 38::g 39::g 40::g 41::g 42::g 43::g 44::g 45::g 46::g 47::g 48::g 49::g 50::g 51::g 52::g 53::g 54::g 55::g 56::g 57::g 58::g 59::g 60::g 61::g 62::g 63::g 64::g 65::g 66::g 67::g 68::g 69::g 70::g 71::g 72::g 73::g 74::g 75::g 76::g 77::g 78::g 79::g 80::g 81::g 82::g 83::g 84::g 85::g 86::g 87::g 88::g 89::g 90::g 91::g 92::g 93::g 94::g 95::g 96::g 97::g 98::g 99::g 100::g 101::g 102::g 103::g 104::g 105::g 106::g 107::g 108::g 109::g 110::g 111::g 112::g 113::g 114::g 115::g 116::g 117::g 118::g 119::g 120::g 121::g 122::g 123::g 124::g 125::g 126::g 127::g 128::g 129::g 130::g 131::g 132::g 133::g 134::g 135::g 136::g 137::g 138::g 139::g 140::g 141::g 142::g 143::g 144::g 145::g 146::g 147::g 148::g 149::g 150::g 151::g 152::g 153::g 154::g 155::[] from rfl]
  simp only[eg0,eg6,eg7,eg10,eg11]
  refine HB aG mixed ?_
  simp only[au,Aaa,Aab,il,cu,cw,cC,cB,cq,cr,cD,bC,cbj,aa1,aa2,aa3,bb1,bb2,bb3,cc1,cc2,cc3,dd1,dd2,dd3,lp1,lp2,lp1',lp2']
  refine al.fk (by simp only[EO]) (aI (tr oj) (aI (.same _) aZ)) (fun h=>Xu true false vj hEj z h (Ptr.ip h true _)) (.bool _) ?_
  cases tz:lM vj z
  rotate_left
  · have as':bF y vj ak=cT vj z.n.toNat (kV (aD vj z.n) ak):=by rw[bF,←hz,if_pos tz]
    simp only[lM,Bool.and_eq_true,decide_eq_true_eq]at tz
    obtain⟨k2,hk2,ez,ez2,eA2⟩:=cL tz.2.1
    obtain⟨e2,he2⟩:∃e2,e2=aD vj z.n:=⟨_,rfl⟩
    rw[←he2]at eA2 as'
    obtain⟨bS,gS,nS,row2,fT,iS,rS,lS,oS2,nfT,sT,bmS,bnS,wrS⟩:=oj.jY hk2
    rw[←eA2]at oS2
    have wE2:oq e2≤wV vj:=by rw[eA2];exact GS (Aan hk2)
    obtain⟨wS2,wQ2,wA2,fS2,fQ2,fA2,rfl,rfl,oSS,oQQ,oAA⟩:=c5 oS2
    obtain⟨rd2,_⟩:=wrS Hj 0 [] e2 (fS2++(fQ2++fA2)) [] (Aap _) (fun c hc=>by cases hc) (fun _ _ _ _=>rfl) (by simp) rfl oS2 nfT (fun c hc=>.inl hc)
    have rd7:∀(e:List AV) (L:List (List AV)),(St.mk e L Hj).cells (.gp bS gS (nS+7)) 1=some [wA2]:=fun e L=>(rd2 e L 7 1).resolve_right (by omega)
    obtain⟨y9,ya,yb,yc⟩:=oAA.cell
    obtain⟨y1,y2,y3,y4⟩:=oSS.cell
    obtain⟨y5,y6,y7,y8⟩:=oQQ.cell
    obtain⟨nS2,nQA2,dS2⟩:=Aad.1 nfT
    obtain⟨nQ2,nA2,dQ2⟩:=Aad.1 nQA2
    have haskl:2*e2.askers.length≤oq e2:=by unfold oq;omega
    obtain⟨v',H8,fp',ea,o8,nd8,hf8,hl8,hm8⟩:=df (bytes:=16) oAA (ys:=[.int .i64 ak.peer,.int .i64 ak.question]) (row:=ak.cd) (f2:=[]) (by simpa using nA2) (by omega) rfl (.i (.i .nil)) (by simp only[Aah,aU];omega)
    simp only[au,Aaa,Aab,il,cu,cw,cC,cB,cq,cr,cD,bN,cbj,aa1,aa2,aa3,bb1,bb2,bb3,cc1,cc2,cc3,dd1,dd2,dd3,lp1,lp2,lp1',lp2',x9,xa,xb,i2,cA1,ez,iS,rd7,y9,ya,yb,ea]
    obtain⟨p1,p2,p3,p4⟩:=o8.cell
    have ltj:∀c,c∈fS2++(fQ2++fA2)→c<Hj.length:=fun c hc=>vltj c (aO.2 (.inl (sT c hc)))
    have kS:∀c∈fS2++fQ2,H8[c]? = Hj[c]?:=fun c hc=>by
      refine hf8 c (fun h=>?_) (ltj c (by simp only[Aac]at hc ⊢;exact hc.elim .inl fun h=>.inr (.inl h)))
      rcases Aac.1 hc with q|q
      · exact dS2 c q c (Aai _ h) rfl
      · exact dQ2 c q c h rfl
    obtain⟨_,H9,f9,s9,l9,r9,o9,m9⟩:=wrS H8 7 [v'] (kV e2 ak) (fS2++(fQ2++fp')) [] hl8 (fun c hc=>by cases hc) (fun c hc hn _=>hf8 c (fun h=>hn (by simp[h])) hc) (by simp)
      (by simp only[je,jg,p3];rfl)
      (by
        have:=jo (e:=kV e2 ak) (oSS.frame fun c hc=>kS c (by simp[hc])) (oQQ.frame fun c hc=>kS c (by simp[hc])) (wA:=v') (fA:=fp') (by simp only[kV,List.map_append];exact o8)
        exact this)
      (Aad.2 ⟨nS2,Aad.2 ⟨nQ2,nd8,fun x hx y hy e=>by
        subst e
        rcases hm8 x hy with g|g|g
        · exact dQ2 x hx x g rfl
        · cases g
        · have:=ltj x (by simp[hx]);omega⟩,fun x hx y hy e=>by
        subst e
        rcases Aac.1 hy with q|q
        · exact dS2 x hx x (by simp[q]) rfl
        · rcases hm8 x q with g|g|g
          · exact dS2 x hx x (by simp[g]) rfl
          · cases g
          · have:=ltj x (by simp[hx]);omega⟩)
      (fun c hc=>by
        simp only[Aac]at hc ⊢
        rcases hc with g|g|g
        · exact .inl (.inl g)
        · exact .inl (.inr (.inl g))
        · rcases hm8 c g with q|q|q
          · exact .inl (.inr (.inr q))
          · cases q
          · exact .inr (.inr q))
    simp only[au,Aaa,Aab,il,cu,cw,cC,cB,cq,cr,cD,EA,p1,p2,p3,s9]
    refine⟨?_,?_⟩
    · refine lG fun r hr=>?_
      rcases(by simpa using hr:r=109∨r=111)with rfl|rfl
      · exact .inr ⟨b,0,1,rfl,by rw[hf8 b (fun h=>oj.bE (sT b (by simp[h]))) bltj,Aaf bltj]⟩
      · exact .inl ⟨_,_,rfl⟩
    have ev9:({ vj with entities:=vj.entities.set k2 (kV e2 ak) }:ar)=bF y vj ak:=by rw[as',cT,ez2]
    rw[ev9]at o9
    have fEj:∀c∈fE',F c∨H.length≤c:=fun c hc=>mj c (aO.2 (.inl hc))
    have m9':∀c∈f9,c∈dh fE' f2' fL' f4'∨Hj.length≤c:=fun c hc=>by
      rcases m9 c hc with⟨g,_⟩|g
      · exact .inl g
      · simp only[Aac]at g
        rcases g with q|q|q
        · exact .inl (aO.2 (.inl (sT c (by simp[q]))))
        · exact .inl (aO.2 (.inl (sT c (by simp[q]))))
        · rcases hm8 c q with q|q|q
          · exact .inl (aO.2 (.inl (sT c (by simp[q]))))
          · cases q
          · exact .inr q
    have r9':∀c,c∉fE'→c<Hj.length→H9[c]? = Hj[c]?:=fun c h1 h2=>by
      rw[r9 c (fun e=>h1 (e▸bmS)),hf8 c (fun h=>h1 (sT c (by simp[h]))) h2]
    refine⟨(j+1,H9,f9,L++[[.int .i64 z.kind,.int .i64 (k2:Int)]]),⟨hlt,by simp only;rw[ts];exact o9,by simp only;omega,fun c hc=>?_,fun c h1 h2 h3=>?_,fun c hc=>?_,hLX _⟩,by simp only;omega,⟨by rw[wN (by omega)];simp[BM,gW,gM],rfl,rfl⟩⟩
    · rcases m9' c hc with g|g
      · exact mj c g
      · exact .inr (by omega)
    · simp only
      rw[r9' c (fun h=>by rcases fEj c h with q|q;exact h1 q;omega) (by omega),rj c h1 h2 h3]
    · simp only
      obtain⟨q1,q2⟩:=qj c hc
      obtain⟨_,q3,q4,_⟩:=fQ7 c (by simp[hc])
      refine⟨by rw[r9' c (fun h=>q2 (aO.2 (.inl h))) (by omega),q1],fun h=>?_⟩
      rcases m9' c h with g|g
      · exact q2 g
      · omega
  · have as':bF y vj ak=e8 (bq vj ak.peer z).1 ak.peer (od ak.question (bq vj ak.peer z).2):=by rw[bF,←hz,if_neg (by rw[tz];simp)]
    obtain⟨w,hw'⟩:∃w,w=(bq vj ak.peer z).2:=⟨_,rfl⟩
    obtain⟨vw,hvw⟩:∃vw,vw=(bq vj ak.peer z).1:=⟨_,rfl⟩
    obtain⟨tk1,tk2,tk3,tk4⟩:=oB vj ak.peer z
    rw[←hvw]at tk1 tk2 tk3 tk4 as'
    rw[←hw']at as'
    replace tk4:=tk4 vij
    simp only[au,Aaa,Aab,il,cu,cw,cC,cB,cq,cr,cD]
    unfold Mq
    obtain⟨R4,hR4⟩:∃R:St→Prop,R=fun zst=>∃H4,∃g:Nat→AV,zst=⟨(List.range 156).map g,L++[[.int .i64 z.kind,.int .i64 z.n],[.int .i64 w.kind,.int .i64 w.n]],H4⟩∧(g 0=.gp b 0 0∧g 6=(.lp (([]:List (List AV)).length+1) 0)∧g 7=(.lp (([]:List (List AV)).length+2) 0)∧g 10=.int .i64 j∧g 12=.lp (L.length+1) 0)∧Co Hj b wE' w2' wL' w4' fE' f2' fL' f4' H4 vw:=⟨_,rfl⟩
    refine FI R4 ?_ ?_
    · refine JG aG mixed (.q 0 (.q 1 (.q 2 (.q 3 (.q 4 (.q 5 (.q 6 (.q 7 (.mix [(8,some [],.all [(9,.q 10 .done)]),(9,none,.mix [(8,some [],.q 10 .done)])]))))))))) (by kernel_rfl) ?_
      unfold tB
      show fy _ _ _ _ _ 11 _ _
      simp only[au,Aaa,Aab,il,cu,cw,cC,cB,cq,cr,cD,bC,an.c,cbj,aa1,aa2,aa3,bb1,bb2,bb3,cc1,cc2,cc3,dd1,dd2,dd3,lp1,lp2,lp1',lp2',x9,xa,xb,i2,cA1,cA2,cA3,jt]
      repeat' (first
        | (guard_target =~ Mem _ _;first|exact Lh (X:=[_]) (Y:=[_])|exact Mem.loc ⟨_,L++[_],_⟩ _ [_]|exact Mem.loc ⟨_,L++[_,_],_⟩ _ [_]|exact Mem.loc ⟨_,L++[_]++[_],_⟩ _ [_])
        | (guard_target =~ jB _ _ _;first|exact gI rfl|exact jZ (L':=[_]) rfl|exact fun r hr=>by cases hr)
        | (guard_target =~ al _ _ Fn.Xm _ _ _
           refine al.ref (by simp only[EO]) (OG vj hEj hLj (fun l hl=>(vij.Cu l hl).mono (by omega)) ak.peer z Hj oj) ?_
           rintro _ H4 ⟨rfl,lu⟩
           rw[←hw']
           rw[←hvw]at lu
           simp only[au,Aaa,Aab,il,cu,cw,cC,cB,cq,cr,cD,bC,aJ.c,cbj,aa1,aa2,aa3,bb1,bb2,bb3,cc1,cc2,cc3,dd1,dd2,dd3,lp1,lp2,lp1',lp2',jt])
        | (rw[hR4];exact⟨_,qv _,rA rfl,⟨rfl,rfl,rfl,rfl,rfl⟩,lu⟩)
        | refine And.intro ?_ ?_)
    intro zst hzst
    rw[hR4]at hzst
    clear hR4
    obtain⟨H4,g,rfl,⟨eg0,eg6,eg7,eg10,eg12⟩,lu⟩:=hzst
    rw[show(List.range 156).map g=g 0::g 1::g 2::g 3::g 4::g 5::g 6::g 7::g 8::g 9::g 10::g 11::g 12::g 13::g 14::g 15::g 16::g 17::g 18::g 19::g 20::g 21::g 22::g 23::g 24::g 25::g 26::g 27::g 28::g 29::g 30::g 31::g 32::g 33::g 34::g 35::g 36::g 37::g 38::g 39::g 40::g 41::g 42::g 43::g 44::g 45::g 46::g 47::g 48::g 49::g 50::g 51::g 52::g 53::g 54::g 55::g 56::g 57::g 58::g 59::g 60::g 61::g 62::g 63::g 64::g 65::g 66::g 67::g 68::g 69::g 70::g 71::g 72::g 73::g 74::g 75::g 76::g 77::g 78::g 79::g 80::g 81::g 82::g 83::g 84::g 85::g 86::g 87::g 88::g 89::g 90::g 91::g 92::g 93::g 94::g 95::g 96::g 97::g 98::g 99::g 100::g 101::g 102::g 103::g 104::g 105::g 106::g 107::g 108::g 109::g 110::g 111::g 112::g 113::g 114::g 115::g 116::g 117::g 118::g 119::g 120::g 121::g 122::g 123::g 124::g 125::g 126::g 127::g 128::g 129::g 130::g 131::g 132::g 133::g 134::g 135::g 136::g 137::g 138::g 139::g 140::g 141::g 142::g 143::g 144::g 145::g 146::g 147::g 148::g 149::g 150::g 151::g 152::g 153::g 154::g 155::[] from rfl]
    simp only[eg0,eg6,eg7,eg10,eg12]
    refine zq aG mixed _ _ _ _ ?_
    obtain⟨fL4,o4,l4,m4,r4⟩:=lu
    have qaj:=qj qa qm
    have q4:∀c∈fA,H4[c]? = Hj[c]?:=fun c hc=>by
      obtain⟨q1,q2⟩:=qj c hc
      exact r4 c (fun h=>q2 (aO.2 (.inr (.inr (.inl h))))) (by have:=(fQ7 c (by simp[hc])).2.2.1;omega)
    have cB1:=fun e L=>(cA H4 e L (by rw[q4 qa qm];exact qaj.1)).1
    have cB2:=fun e L=>(cA H4 e L (by rw[q4 qa qm];exact qaj.1)).2.1
    have cB3:=fun e L=>(cA H4 e L (by rw[q4 qa qm];exact qaj.1)).2.2
    simp only[au,Aaa,Aab,il,cu,cw,cC,cB,cq,cr,cD,bN,aa1,aa2,aa3,bb1,bb2,bb3,cc1,cc2,cc3,dd1,dd2,dd3,lp1,lp2,lp1',lp2',x9,xa,xb,i2,cB1,cB2,cB3]
    have ovw:vw.out.length≤1048576:=by
      rw[tk3]
      have:vj.out.length≤wV vj:=by unfold wV;omega
      omega
    have omsg:aM H4 [.int .i64 2,.int .i64 0,.int .i64 0,.int .i64 ak.question,.str ⟨#[]⟩,.nils,.int .i64 w.kind,.int .i64 w.n,.int .i64 0,.int .i64 0,.int .i64 0,.int .i64 0] (od ak.question w).cd []:=
      .i (.i (.i (.i (.s (aM.o (f1:=[]) (b9.nil 2) (.i (.i (.i (.i (.i (.i .nil)))))))))))
    refine al.ref (by simp only[EO]) (Dp vw (by have:=tk4.aq;omega) ovw ak.peer (od ak.question w) H4 o4.at omsg (by simp) (fun c hc=>by cases hc)) ?_
    rintro _ H5 ⟨rfl,f5,o5,l5,m5,r5⟩
    rw[←as']at o5
    replace o5:jr H5 b (bF y vj ak) f5:=o5
    replace l5:H4.length≤H5.length:=l5
    replace r5:∀c,¬(c∈dh fE' f2' fL4 f4'∨c∈([]:List Nat))→c≠b→c<H4.length→H5[c]? = H4[c]?:=r5
    replace m5:∀c∈f5,(c∈dh fE' f2' fL4 f4'∨c∈([]:List Nat))∨H4.length≤c:=m5
    simp only[au,Aaa,Aab,il,cu,cw,cC,cB,cq,cr,cD,EA]
    have fp4':∀c,c∈dh fE' f2' fL4 f4'→c∈dh fE' f2' fL' f4'∨Hj.length≤c:=fun c hc=>by
      rcases aO.1 hc with q|q|q|q
      · exact .inl (aO.2 (.inl q))
      · exact .inl (aO.2 (.inr (.inl q)))
      · exact(m4 c q).imp (fun h=>aO.2 (.inr (.inr (.inl h)))) id
      · exact .inl (aO.2 (.inr (.inr (.inr q))))
    have m5':∀c∈f5,c∈dh fE' f2' fL' f4'∨Hj.length≤c:=fun c hc=>by
      rcases m5 c hc with(g|g)|g
      · exact fp4' c g
      · cases g
      · exact .inr (by omega)
    have r5':∀c,c∉dh fE' f2' fL' f4'→c≠b→c<Hj.length→H5[c]? = Hj[c]?:=fun c h1 h2 h3=>by
      rw[r5 c (fun h=>by
        rcases h with g|g
        · rcases fp4' c g with q|q
          · exact h1 q
          · omega
        · cases g) h2 (by omega),r4 c (fun h=>h1 (aO.2 (.inr (.inr (.inl h))))) h3]
    refine⟨(j+1,H5,f5,L++[[.int .i64 z.kind,.int .i64 z.n],[.int .i64 w.kind,.int .i64 w.n]]),⟨hlt,by simp only;rw[ts];exact o5,by simp only;omega,fun c hc=>?_,fun c h1 h2 h3=>?_,fun c hc=>?_,hLX _⟩,by simp only;omega,⟨by rw[wN (by omega)];simp[BM,gW,gM],rfl,rfl⟩⟩
    · rcases m5' c hc with g|g
      · exact mj c g
      · exact .inr (by omega)
    · simp only
      rw[r5' c (fun h=>by rcases mj c h with q|q;exact h1 q;omega) h2 (by omega),rj c h1 h2 h3]
    · simp only
      obtain⟨q1,q2⟩:=qj c hc
      obtain⟨_,q3,q4,_⟩:=fQ7 c (by simp[hc])
      refine⟨by rw[r5' c q2 q3 (by omega),q1],fun h=>?_⟩
      rcases m5' c h with g|g
      · exact q2 g
      · omega
end Go.Proofs.YtolciaflplefcaaGreat
