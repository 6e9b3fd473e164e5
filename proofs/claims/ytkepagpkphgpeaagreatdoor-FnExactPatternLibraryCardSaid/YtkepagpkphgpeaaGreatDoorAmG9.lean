import Derived.Test.YtkepagpkphgpeaaGreatDoorAmG8
import Derived.Test.YtkepagpkphgpeaaGreatDoorAmG7
import Derived.Test.YtkepagpkphgpeaaGreatDoorAmG6
import Derived.Sort.Grow
import Derived.Shelf.Strconv.Itoa3
import Derived.Shelf.Strconv.AtoiAll
import Derived.Shelf.Small.Wraps
import Derived.Lib.AtoiTie
import Derived.Lib.Split
import Derived.Lib.Replace
import Derived.Lib.IndexMore
set_option linter.unusedVariables false
set_option linter.unusedSimpArgs false
namespace Go.AM
open Go.Proofs Go.Shelf Go.RowKit
variable {P:Program} {Γ:aZ} {h:AH}
def aF(n:Int):ByteArray:=⟨(Lib.itoa n).toArray⟩
theorem RH.below{ρ:bO}{ls:List Nat}{L:List (List AV)}{w w':World}(r:RH ρ ls L h w)(b:Below w.heap.size w w'):RH ρ ls L h w':=r.iB b.size b.block
theorem ez.below{ρ:bO}{ls:List Nat}{w w':World}(b:Below w.heap.size w w'):ez ρ ls h w ρ ls h w':=.iB b.size b.block b.os b.output
theorem pd.var{ρ:bO}{w:World}(gg:pd Γ ρ)(r:RH ρ [] [] h w){g:Nat}{cs:List AV}(e:Γ g=some cs):
    ∃arr T fr,w.heap[g]? = some (.cells arr T fr)∧arr.size=cs.length∧∀(i:Nat) (x:AV),cs[i]? = some x→∃y,arr[i]? = some y∧RV ρ [] x y:=by
  obtain⟨arr,h1,h2,h3⟩:=gg g cs e
  obtain⟨T,fr,h4⟩:=r.im _ _ _ h1
  exact⟨arr,T,fr,h4,h3,fun i x hx=>by have:=h2 i x hx;simpa using this⟩
theorem pd.cA{ρ:bO}{w:World}(gg:pd Γ ρ)(r:RH ρ [] [] h w){g:Nat}{k:IntKind}{zs:List Int}(e:Γ g=some (zs.map (AV.int k))){nm:String}(hg:P.globalNamed nm=some g):Lib.TabIs P w nm k zs:=by
  obtain⟨arr,T,fr,h1,h2,h3⟩:=gg.var r e
  unfold Lib.TabIs World.var?
  rw[hg]
  simp only[Option.bind_some,h1,Option.some.injEq]
  apply Array.ext_getElem?
  intro i
  by_cases hi:i<zs.length
  · have hx:(zs.map (AV.int k))[i]? = some (.int k zs[i]):=by simp[hi]
    obtain⟨y,hy,ry⟩:=h3 i _ hx
    cases ry
    rw[hy];simp[hi]
  · rw[Array.getElem?_eq_none (by rw[h2,List.length_map];omega),Array.getElem?_eq_none (by simp;omega)]
theorem C7{ren:Ren}(Ly:LaysM.n171 P ren)(hcl:cH P (ren.f 171)){g:Nat}(hg:P.globalNamed "internal/strconv.uint64pow10" = some g)(hΓ:Γ g=some (Lib.pow10Tab.map (AV.int .u64)))
    (n:Int) (h0:-9223372036854775808≤n) (h1:n≤9223372036854775807) (h:AH):T P Γ (ren.f 171) [.int .i64 n] h fun v h'=>v=.str (aF n)∧h'=h:=by
  refine⟨hcl,fun ρ w cargs r gg ra=>?_⟩
  obtain⟨v,rfl,rv⟩:=my ra
  cases rv
  refine(Any.strconv_Itoa Ly n h0 h1 w (gg.cA r hΓ hg)).mono ?_
  rintro e w' ⟨rfl,k,os,rfl⟩
  have hs:w.heap.size≤(Sort.grow (w.drewN k) os).heap.size:=by simp[Sort.grow]
  have ho:∀c,c<w.heap.size→(Sort.grow (w.drewN k) os).heap[c]? = w.heap[c]?:=by
    intro c hc
    simp only[Sort.grow,World.heap_drewN]
    exact Array.getElem?_append_left hc
  exact⟨.str (aF n),_,ρ,h,rfl,.str _ _,r.iB hs ho,.iB hs ho rfl rfl,rfl,rfl⟩
theorem RV.yy{ρ:bO}{x y:AV}{a b:Value}(h1:RV ρ [] x a)(h2:RV ρ [] y b):RV ρ [] (.tup [x,y]) (.tuple #[a,b]):=by
  refine .tup _ _ _ rfl (fun i z hz=>?_)
  match i,hz with
  | 0,hz=>simp at hz;subst hz;exact h1
  | 1,hz=>simp at hz;subst hz;exact h2
  | n+2,hz=>simp at hz
def qX(l:List UInt8)(x:Int)(e:Value):Prop:=match Lib.atoiAll l with
  | .ok n=>x=n∧e=.nilIface
  | _=>∃t p,e=.iface t p
theorem CU{ren:Ren}(Ly:LaysC.n172 P ren)(hcl:cH P (ren.f 172)){t1 t2:TypeId}{p1 p2:Value}
    (hΓ1:Γ (ren.g 15)=some [.opq (.iface t1 p1)]) (hΓ2:Γ (ren.g 16)=some [.opq (.iface t2 p2)]) (s:ByteArray) (hs:s.size≤281474976710656) (h:AH):
    T P Γ (ren.f 172) [.str s] h fun v h'=>(∃x e,v=.tup [.int .i64 x,.opq e]∧qX s.data.toList x e)∧h'=h:=by
  refine⟨hcl,fun ρ w cargs r gg ra=>?_⟩
  obtain⟨v,rfl,rv⟩:=my ra
  cases rv
  have cellOf:∀{g:Nat} {t:TypeId} {p:Value},Γ g=some [.opq (.iface t p)]→w.cell? ⟨g,0,none⟩=some (.iface t p):=by
    intro g t p e
    obtain⟨arr,T,fr,k1,k2,k3⟩:=gg.var r e
    obtain⟨y,hy,ry⟩:=k3 0 _ rfl
    cases ry
    rw[cell_of k1];exact hy
  cases ha:Lib.atoiAll s.data.toList with
  | ok n=>
    refine(Any.strconv_Atoi_ok Ly s (by omega) n ha w).mono ?_
    rintro e w' ⟨rfl,hw⟩
    have hb:Below w.heap.size w w':=by
      rcases hw with rfl|⟨t,rfl⟩
      · exact Below.refl _ _
      · exact Lib.bytesWorld_below _ _ _
    exact⟨.tup [.int .i64 n,.opq .nilIface],_,ρ,h,rfl,.yy (.int _ _ _) (.opq _ _),r.below hb,.below hb,⟨n,_,rfl,by simp[qX,ha]⟩,rfl⟩
  | range=>
    refine(Any.strconv_Atoi_range Ly s hs ha (.iface t2 p2) w (cellOf hΓ2) (.inr ⟨_,_,rfl⟩)).mono ?_
    rintro e w' ⟨N,rfl,_,_,hb⟩
    exact⟨.tup [.int .i64 _,.opq _],_,ρ,h,rfl,.yy (.int _ _ _) (.opq _ _),r.below hb,.below hb,⟨_,_,rfl,by simp[qX,ha]⟩,rfl⟩
  | _=>
    refine(Any.strconv_Atoi_syntax Ly s hs ha (.iface t1 p1) w (cellOf hΓ1) (.inr ⟨_,_,rfl⟩)).mono ?_
    rintro e w' ⟨N,rfl,_,_,hb⟩
    exact⟨.tup [.int .i64 0,.opq _],_,ρ,h,rfl,.yy (.int _ _ _) (.opq _ _),r.below hb,.below hb,⟨0,_,rfl,by simp[qX,ha]⟩,rfl⟩
theorem pB{x y:AV}{ρ:bO}{vs:List Value}(r:cV ρ [] [x,y] vs):∃v w,vs=[v,w]∧RV ρ [] x v∧RV ρ [] y w:=by
  obtain⟨h1,h2⟩:=r
  match vs,h1 with
  | [v,w],_=>exact⟨v,w,rfl,h2 0 x rfl,h2 1 y rfl⟩
theorem rm{ren:Ren}(Ly:Lays.n103 P ren)(hcl:cH P (ren.f 103))(s p:ByteArray)(h:AH):
    T P Γ (ren.f 103) [.str s,.str p] h fun v h'=>v=.tup [.str ⟨(Lib.trimPrefix s.data.toList p.data.toList).toArray⟩,.bool (Lib.hasPrefix s.data.toList p.data.toList)]∧h'=h:=by
  refine⟨hcl,fun ρ w cargs r gg ra=>?_⟩
  obtain⟨v,u,rfl,rv,ru⟩:=pB ra
  cases rv;cases ru
  refine(Any.strings_CutPrefix Ly s p w).mono ?_
  rintro e w' ⟨rfl,rfl⟩
  exact⟨_,_,ρ,h,rfl,.yy (.str _ _) (.bool _ _),r,.refl _ _ _ _,rfl,rfl⟩
theorem gr{u:Nat}(h:10≤u):Lib.decDigits u=Lib.decDigits (u / 10)++[UInt8.ofNat (48+u % 10)]:=by
  rw[Lib.decDigits,dif_neg (by omega)]
theorem cM{u:Nat}(h:u<10):Lib.decDigits u=[UInt8.ofNat (48+u)]:=by
  rw[Lib.decDigits,dif_pos h]
def mH(u:Nat):List UInt8:=if u=0 then []else Lib.decDigits u
theorem oZ{u:Nat}(h:u≠0):mH u=mH (u / 10)++[UInt8.ofNat (48+u % 10)]:=by
  unfold mH
  rw[if_neg h]
  by_cases h1:u<10
  · rw[cM h1,if_pos (by omega),Nat.mod_eq_of_lt h1];rfl
  · rw[gr (by omega),if_neg (by omega)]
theorem mD{d:Nat}(h:d<256):(UInt8.ofNat d).toNat=d:=by simp[UInt8.toNat_ofNat',Nat.mod_eq_of_lt h]
theorem jT:∀(l m:List UInt8) (a:Nat),Lib.decFrom a (l++m)=(Lib.decFrom a l).bind fun b=>Lib.decFrom b m
  | [],m,a=>rfl
  | c::l,m,a=>by
    simp only[List.cons_append,Lib.decFrom]
    cases Lib.digitVal c with
    | none=>rfl
    | some d=>exact jT l m _
theorem p7:∀(u:Nat),Lib.decFrom 0 (mH u)=some u:=by
  intro u
  induction u using Nat.strongRecOn with
  | _ u ih=>
    by_cases h:u=0
    · subst h;rfl
    · rw[oZ h,jT,ih (u / 10) (by omega)]
      simp only[Option.bind_some,Lib.decFrom,Lib.digitVal]
      rw[mD (by omega),if_pos (by omega)]
      simp only[Option.some.injEq];omega
theorem cW(u:Nat):Lib.decFrom 0 (Lib.decDigits u)=some u:=by
  by_cases h:u=0
  · subst h;rw[cM (by omega)];rfl
  · have:=p7 u;rwa[mH,if_neg h]at this
theorem dd(n:Nat):(aF n).data.toList=Lib.decDigits n:=by simp[aF,Lib.itoa_nonneg]
theorem uE{a b:Nat}(h:aF a=aF b):a=b:=by
  have e:(aF a).data.toList=(aF b).data.toList:=by rw[h]
  rw[dd,dd]at e
  have:=cW a
  rw[e,cW]at this
  exact(Option.some.inj this).symm
theorem gJ(u:Nat):∃c r,Lib.decDigits u=c::r∧48≤c.toNat∧c.toNat≤57:=by
  induction u using Nat.strongRecOn with
  | _ u ih=>
    by_cases h:u<10
    · exact⟨_,[],cM h,by rw[mD (by omega)];omega,by rw[mD (by omega)];omega⟩
    · obtain⟨c,r,e,h1,h2⟩:=ih (u / 10) (by omega)
      exact⟨c,r++[UInt8.ofNat (48+u % 10)],by rw[gr (by omega),e];rfl,h1,h2⟩
theorem fR{u k:Nat}(h:u<10 ^ k)(hk:0<k):(Lib.decDigits u).length≤k:=by
  induction k generalizing u with
  | zero=>omega
  | succ k ih=>
    by_cases h1:u<10
    · rw[cM h1];simp
    · rw[gr (by omega)]
      simp only[List.length_append,List.length_cons,List.length_nil]
      have hk0:0<k:=by
        rcases Nat.eq_zero_or_pos k with rfl|hp
        · simp at h;omega
        · exact hp
      have:=ih (u:=u / 10) (by rw[Nat.pow_succ]at h;omega) hk0
      omega
open Classical in
noncomputable def gx(s:ByteArray):Option Nat:=if h:∃n:Nat,n≤1000000000000∧s=aF n then some h.choose else none
theorem j6{n:Nat}(h:n≤1000000000000):gx (aF n)=some n:=by
  have hx:∃m:Nat,m≤1000000000000∧aF n=aF m:=⟨n,h,rfl⟩
  unfold gx
  rw[dif_pos hx]
  exact congrArg some (uE hx.choose_spec.2).symm
theorem jW{s:ByteArray}(h:∀n:Nat,n≤1000000000000→s≠aF n):gx s=none:=by
  unfold gx
  rw[dif_neg]
  rintro⟨n,h1,h2⟩
  exact h n h1 h2
theorem tD(gl:Bool)(s:St)(x:X):step Γ gl s (.cvt x)=.cZ s (((s.aE 1 (s.eval Γ x)).bind bz).map fun l=>.str ⟨l.toArray⟩):=rfl
theorem yg(e:List AV)(L:List (List AV))(H:AH)(x:AV)(ex:Bool):(St.mk e L (H++[some (0,[x])])).aE 1 (.gs H.length 0 0 1 1 1 ex)=some [x]:=by
  simp[St.aE,aS,sub]
theorem sG{a b:ByteArray}(h:a.size+b.size≤9223372036854775807):bg .add .num (.str a) (.str b)=some (.str (a++b)):=by
  have:¬(((a.size+b.size:Nat):Int)>IntKind.i64.max):=by
    have:IntKind.i64.max=9223372036854775807:=by decide
    omega
  simp only[bg];rw[if_neg this]
theorem tu(k:IntKind)(n:Int):Dq .neg (.int k n)=some (.int k (k.wrap (0-n))):=rfl
theorem kh(n:Int):bg .quo .num (.int .i64 n) (.int .i64 10)=some (.int .i64 (IntKind.i64.wrap (n.tdiv 10))):=rfl
theorem kz(n:Int):bg .rem .num (.int .i64 n) (.int .i64 10)=some (.int .i64 (n.tmod 10)):=rfl
theorem By(a b:List UInt8):(⟨a.toArray⟩:ByteArray)++⟨b.toArray⟩=⟨(a++b).toArray⟩:=by
  apply ByteArray.ext
  simp[ByteArray.data_append]
theorem dR(l:List UInt8):(⟨l.toArray⟩:ByteArray).size=l.length:=by simp[ByteArray.size]
theorem aQ(a b:ByteArray):(a.toList == b.toList)=decide (a=b):=by
  by_cases h:a=b
  · subst h;simp
  · rw[decide_eq_false h]
    rw[beq_eq_false_iff_ne]
    intro e
    exact h (ByteArray.ext (by
      have e1:a.data.toList=b.data.toList:=by
        simpa only[ByteArray.toList_eq]using e
      exact Array.toList_inj.1 e1))
theorem xL(n:Int)(hn:n.natAbs≤9223372036854775808):(n.tmod 10).natAbs=n.natAbs % 10:=by
  rw[Int.natAbs_tmod];rfl
theorem xO(n:Int):(n.tdiv 10).natAbs=n.natAbs / 10:=by
  rw[Int.natAbs_tdiv];rfl
theorem T.text{f:FuncId}{args:List AV}{h:AH}{s:ByteArray}(t:T P Γ f args h fun v h'=>v=.str s∧∃N,h'=h++N):T P Γ f args h fun v h'=>v=.str s∧h'=h:=by
  have:=T.frozen (rs:=[.c (.s s)]) (t.fresh (by
    rintro v h' ⟨rfl,N,rfl⟩
    exact⟨[.str s],N,[],rfl,rfl,⟨[],[],rfl,.s _,rfl⟩,List.nodup_nil,by simp⟩))
  exact this.mono fun v h' ⟨h1,h2⟩=>⟨by simpa[gu,RD.av,CD.av]using h1,h2⟩
theorem yM{P:Program}{W:World}{nm:String}{g:Nat}{k:IntKind}{zs:List Int}(hg:P.globalNamed nm=some g)(ht:Lib.TabIs P W nm k zs):
    ∃arr,(bB W).imm false g=some arr∧dh (bB W) [] arr 0 (zs.map (AV.int k))∧arr.size=(zs.map (AV.int k)).length:=by
  unfold Lib.TabIs World.var? at ht
  rw[hg]at ht
  simp only[Option.bind_some]at ht
  split at ht
  · rename_i cs T fr hh
    injection ht with ht
    subst ht
    refine⟨_,by simp only[bB,hh];rfl,fun i x hx=>?_,by simp⟩
    simp only[List.getElem?_map,Option.map_eq_some_iff]at hx
    obtain⟨z,hz,rfl⟩:=hx
    exact⟨.int k z,by simp[hz],.int _ _ _⟩
  · cases ht
theorem pT{W:World}{g:Nat}{v:Value}{T:TypeId}{fr:Nat×Nat}(h:W.heap[g]? = some (.cells #[v] T fr)):
    ∃arr,(bB W).imm false g=some arr∧dh (bB W) [] arr 0 [.opq v]∧arr.size=[AV.opq v].length:=by
  refine⟨#[v],by simp only[bB,h];rfl,fun i x hx=>?_,rfl⟩
  match i,hx with
  | 0,hx=>simp at hx;subst hx;exact⟨v,rfl,.opq _ _⟩
  | n+1,hx=>simp at hx
end Go.AM
namespace Go.AM
def uc:List UInt8:=[99,101,108,108,32,103,101,116,58,32,115,108,111,116,32,48,32,48,59,32,114,101,116,117,114,110,32,48,10,99,101,108,108,32,115,101,116,58,32,97,114,103,32,48,32,48,59,32,115,101,116,32,48,32,48,59,32,114,101,116,117,114,110,32,48,10,99,101,108,108,32,97,100,100,58,32,115,108,111,116,32,48,32,48,59,32,97,114,103,32,49,32,48,59,32,97,100,100,32,48,32,48,32,49,59,32,115,101,116,32,48,32,48,59,32,114,101,116,117,114,110,32,48,10,103,97,116,101,32,103,101,116,58,32,115,108,111,116,32,48,32,48,59,32,115,101,110,100,32,49,32,48,32,103,101,116,59,32,114,101,116,117,114,110,32,49,10,103,97,116,101,32,97,100,100,58,32,115,108,111,116,32,48,32,48,59,32,97,114,103,32,49,32,48,59,32,115,101,110,100,32,50,32,48,32,97,100,100,32,49,59,32,114,101,116,117,114,110,32,50,10,103,97,116,101,32,99,108,111,115,101,58,32,99,111,110,115,116,32,48,32,48,59,32,115,101,116,32,48,32,48,59,32,114,101,116,117,114,110,32,48,10,109,101,116,101,114,32,103,101,116,58,32,115,108,111,116,32,49,32,48,59,32,114,101,116,117,114,110,32,49,10,109,101,116,101,114,32,97,100,100,58,32,115,108,111,116,32,49,32,49,59,32,99,111,110,115,116,32,50,32,49,59,32,97,100,100,32,49,32,49,32,50,59,32,115,101,116,32,49,32,49,59,32,115,108,111,116,32,48,32,48,59,32,97,114,103,32,51,32,48,59,32,115,101,110,100,32,52,32,48,32,97,100,100,32,51,59,32,114,101,116,117,114,110,32,52,10,109,101,116,101,114,32,99,111,117,110,116,58,32,115,108,111,116,32,48,32,49,59,32,114,101,116,117,114,110,32,48,10,109,97,107,101,114,32,109,97,107,101,58,32,97,114,103,32,48,32,48,59,32,110,101,119,32,49,32,103,97,116,101,32,48,59,32,114,101,116,117,114,110,32,49]
def cD:List UInt8:=[115,99,114,105,112,116,32,99,101,108,108,10,109,101,116,104,111,100,32,103,101,116,10,115,108,111,116,32,48,32,48,10,114,101,116,117,114,110,32,48,10,109,101,116,104,111,100,32,115,101,116,10,97,114,103,32,48,32,48,10,115,101,116,32,48,32,48,10,114,101,116,117,114,110,32,48,10,109,101,116,104,111,100,32,97,100,100,10,115,108,111,116,32,48,32,48,10,97,114,103,32,49,32,48,10,97,100,100,32,48,32,48,32,49,10,115,101,116,32,48,32,48,10,114,101,116,117,114,110,32,48,10,115,99,114,105,112,116,32,103,97,116,101,10,109,101,116,104,111,100,32,103,101,116,10,115,108,111,116,32,48,32,48,10,115,101,110,100,32,49,32,48,32,103,101,116,10,114,101,116,117,114,110,32,49,10,109,101,116,104,111,100,32,97,100,100,10,115,108,111,116,32,48,32,48,10,97,114,103,32,49,32,48,10,115,101,110,100,32,50,32,48,32,97,100,100,32,49,10,114,101,116,117,114,110,32,50,10,109,101,116,104,111,100,32,99,108,111,115,101,10,99,111,110,115,116,32,48,32,48,10,115,101,116,32,48,32,48,10,114,101,116,117,114,110,32,48,10,115,99,114,105,112,116,32,109,101,116,101,114,10,109,101,116,104,111,100,32,103,101,116,10,115,108,111,116,32,49,32,48,10,114,101,116,117,114,110,32,49,10,109,101,116,104,111,100,32,97,100,100,10,115,108,111,116,32,49,32,49,10,99,111,110,115,116,32,50,32,49,10,97,100,100,32,49,32,49,32,50,10,115,101,116,32,49,32,49,10,115,108,111,116,32,48,32,48,10,97,114,103,32,51,32,48,10,115,101,110,100,32,52,32,48,32,97,100,100,32,51,10,114,101,116,117,114,110,32,52,10,109,101,116,104,111,100,32,99,111,117,110,116,10,115,108,111,116,32,48,32,49,10,114,101,116,117,114,110,32,48,10,115,99,114,105,112,116,32,109,97,107,101,114,10,109,101,116,104,111,100,32,109,97,107,101,10,97,114,103,32,48,32,48,10,110,101,119,32,49,32,103,97,116,101,32,48,10,114,101,116,117,114,110,32,49,10]
def pat:ByteArray:=⟨uc.toArray⟩
def nl:ByteArray:=⟨#[10]⟩
theorem c9:Lib.countB pat nl=9:=by decide +kernel
structure sy where
  line:List UInt8
  own:List UInt8
  met:List UInt8
  code:List UInt8
  rep:List UInt8
def dE:List sy:=[
  ⟨[99,101,108,108,32,103,101,116,58,32,115,108,111,116,32,48,32,48,59,32,114,101,116,117,114,110,32,48],[99,101,108,108],[103,101,116],[115,108,111,116,32,48,32,48,59,32,114,101,116,117,114,110,32,48],[115,108,111,116,32,48,32,48,10,114,101,116,117,114,110,32,48]⟩,
  ⟨[99,101,108,108,32,115,101,116,58,32,97,114,103,32,48,32,48,59,32,115,101,116,32,48,32,48,59,32,114,101,116,117,114,110,32,48],[99,101,108,108],[115,101,116],[97,114,103,32,48,32,48,59,32,115,101,116,32,48,32,48,59,32,114,101,116,117,114,110,32,48],[97,114,103,32,48,32,48,10,115,101,116,32,48,32,48,10,114,101,116,117,114,110,32,48]⟩,
  ⟨[99,101,108,108,32,97,100,100,58,32,115,108,111,116,32,48,32,48,59,32,97,114,103,32,49,32,48,59,32,97,100,100,32,48,32,48,32,49,59,32,115,101,116,32,48,32,48,59,32,114,101,116,117,114,110,32,48],[99,101,108,108],[97,100,100],[115,108,111,116,32,48,32,48,59,32,97,114,103,32,49,32,48,59,32,97,100,100,32,48,32,48,32,49,59,32,115,101,116,32,48,32,48,59,32,114,101,116,117,114,110,32,48],[115,108,111,116,32,48,32,48,10,97,114,103,32,49,32,48,10,97,100,100,32,48,32,48,32,49,10,115,101,116,32,48,32,48,10,114,101,116,117,114,110,32,48]⟩,
  ⟨[103,97,116,101,32,103,101,116,58,32,115,108,111,116,32,48,32,48,59,32,115,101,110,100,32,49,32,48,32,103,101,116,59,32,114,101,116,117,114,110,32,49],[103,97,116,101],[103,101,116],[115,108,111,116,32,48,32,48,59,32,115,101,110,100,32,49,32,48,32,103,101,116,59,32,114,101,116,117,114,110,32,49],[115,108,111,116,32,48,32,48,10,115,101,110,100,32,49,32,48,32,103,101,116,10,114,101,116,117,114,110,32,49]⟩,
  ⟨[103,97,116,101,32,97,100,100,58,32,115,108,111,116,32,48,32,48,59,32,97,114,103,32,49,32,48,59,32,115,101,110,100,32,50,32,48,32,97,100,100,32,49,59,32,114,101,116,117,114,110,32,50],[103,97,116,101],[97,100,100],[115,108,111,116,32,48,32,48,59,32,97,114,103,32,49,32,48,59,32,115,101,110,100,32,50,32,48,32,97,100,100,32,49,59,32,114,101,116,117,114,110,32,50],[115,108,111,116,32,48,32,48,10,97,114,103,32,49,32,48,10,115,101,110,100,32,50,32,48,32,97,100,100,32,49,10,114,101,116,117,114,110,32,50]⟩,
  ⟨[103,97,116,101,32,99,108,111,115,101,58,32,99,111,110,115,116,32,48,32,48,59,32,115,101,116,32,48,32,48,59,32,114,101,116,117,114,110,32,48],[103,97,116,101],[99,108,111,115,101],[99,111,110,115,116,32,48,32,48,59,32,115,101,116,32,48,32,48,59,32,114,101,116,117,114,110,32,48],[99,111,110,115,116,32,48,32,48,10,115,101,116,32,48,32,48,10,114,101,116,117,114,110,32,48]⟩,
  ⟨[109,101,116,101,114,32,103,101,116,58,32,115,108,111,116,32,49,32,48,59,32,114,101,116,117,114,110,32,49],[109,101,116,101,114],[103,101,116],[115,108,111,116,32,49,32,48,59,32,114,101,116,117,114,110,32,49],[115,108,111,116,32,49,32,48,10,114,101,116,117,114,110,32,49]⟩,
  ⟨[109,101,116,101,114,32,97,100,100,58,32,115,108,111,116,32,49,32,49,59,32,99,111,110,115,116,32,50,32,49,59,32,97,100,100,32,49,32,49,32,50,59,32,115,101,116,32,49,32,49,59,32,115,108,111,116,32,48,32,48,59,32,97,114,103,32,51,32,48,59,32,115,101,110,100,32,52,32,48,32,97,100,100,32,51,59,32,114,101,116,117,114,110,32,52],[109,101,116,101,114],[97,100,100],[115,108,111,116,32,49,32,49,59,32,99,111,110,115,116,32,50,32,49,59,32,97,100,100,32,49,32,49,32,50,59,32,115,101,116,32,49,32,49,59,32,115,108,111,116,32,48,32,48,59,32,97,114,103,32,51,32,48,59,32,115,101,110,100,32,52,32,48,32,97,100,100,32,51,59,32,114,101,116,117,114,110,32,52],[115,108,111,116,32,49,32,49,10,99,111,110,115,116,32,50,32,49,10,97,100,100,32,49,32,49,32,50,10,115,101,116,32,49,32,49,10,115,108,111,116,32,48,32,48,10,97,114,103,32,51,32,48,10,115,101,110,100,32,52,32,48,32,97,100,100,32,51,10,114,101,116,117,114,110,32,52]⟩,
  ⟨[109,101,116,101,114,32,99,111,117,110,116,58,32,115,108,111,116,32,48,32,49,59,32,114,101,116,117,114,110,32,48],[109,101,116,101,114],[99,111,117,110,116],[115,108,111,116,32,48,32,49,59,32,114,101,116,117,114,110,32,48],[115,108,111,116,32,48,32,49,10,114,101,116,117,114,110,32,48]⟩,
  ⟨[109,97,107,101,114,32,109,97,107,101,58,32,97,114,103,32,48,32,48,59,32,110,101,119,32,49,32,103,97,116,101,32,48,59,32,114,101,116,117,114,110,32,49],[109,97,107,101,114],[109,97,107,101],[97,114,103,32,48,32,48,59,32,110,101,119,32,49,32,103,97,116,101,32,48,59,32,114,101,116,117,114,110,32,49],[97,114,103,32,48,32,48,10,110,101,119,32,49,32,103,97,116,101,32,48,10,114,101,116,117,114,110,32,49]⟩]
def lines:List ByteArray:=dE.map fun r=>⟨r.line.toArray⟩
theorem oP:∀(a b:List UInt8),(10:UInt8)∉a→Lib.index (a++10::b) [10]=a.length
  | [],b,_=>by simp[Lib.index,List.isPrefixOf]
  | c::a,b,h=>by
    have h1:((10:UInt8) == c)=false:=beq_eq_false_iff_ne.2 (fun e=>h (by simp[e]))
    have h2:=oP a b (fun e=>h (by simp[e]))
    rw[List.cons_append,Lib.index,h2]
    simp only[List.isPrefixOf,h1,Bool.false_and,Bool.false_eq_true,if_false]
    rw[if_neg (by simp)]
    simp
theorem rJ(a b:List UInt8)(h:(10:UInt8)∉a)(n:Nat):Lib.splitB nl 0 (n+1) ⟨(a++10::b).toArray⟩=⟨a.toArray⟩::Lib.splitB nl 0 n ⟨b.toArray⟩:=by
  have hi:Lib.indexB ⟨(a++10::b).toArray⟩ nl=a.length:=by
    show Lib.index (a++10::b).toArray.toList [10]=_
    rw[List.toList_toArray];exact oP a b h
  have e1:(⟨(a++10::b).toArray⟩:ByteArray).extract 0 a.length=⟨a.toArray⟩:=by
    apply ByteArray.ext;simp[ByteArray.data_extract]
  have e2:(⟨(a++10::b).toArray⟩:ByteArray).extract (a.length+1) (⟨(a++10::b).toArray⟩:ByteArray).size=⟨b.toArray⟩:=by
    apply ByteArray.ext;simp[ByteArray.data_extract,ByteArray.size];exact List.take_of_length_le (by omega)
  rw[Lib.splitB,hi]
  rw[if_neg (by simp)]
  simp only[Int.toNat_natCast,Nat.add_zero,e1]
  rw[show nl.size=1 from rfl,e2]
def th:List (List UInt8)→List UInt8
  | []=>[]
  | [a]=>a
  | a::b::r=>a++10::th (b::r)
theorem jN:∀(l:List (List UInt8)) (a:List UInt8),(∀x∈a::l,(10:UInt8)∉x)→Lib.splitB nl 0 l.length ⟨(th (a::l)).toArray⟩=(a::l).map fun x=>⟨x.toArray⟩
  | [],a,_=>rfl
  | b::l,a,h=>by
    rw[th,List.length_cons,rJ _ _ (h a (by simp)),jN l b (fun x hx=>h x (by simp[List.mem_cons.1 hx]))]
    rfl
theorem vL:uc=th (dE.map sy.line):=by decide +kernel
theorem FQ:∀x∈dE.map sy.line,(10:UInt8)∉x:=by decide +kernel
theorem xo:Lib.splitB nl 0 9 pat=lines:=by
  have:=jN ((dE.map sy.line).tail) ((dE.map sy.line).headD []) (fun x hx=>FQ x (show x∈dE.map sy.line from hx))
  rw[pat,vL]
  exact this
theorem Cp:dE.all (fun r=>decide (Lib.cut r.line [58,32]=(r.own++[32]++r.met,r.code,true)) && decide (Lib.cut (r.own++[32]++r.met) [32]=(r.own,r.met,true)) && decide (Lib.replaceAll r.code [59,32] [10]=r.rep))=true:=by decide +kernel
def sJ(own:List UInt8):List UInt8:=[115,99,114,105,112,116,32]++own++[10]
def pc(met rep:List UInt8):List UInt8:=[109,101,116,104,111,100,32]++met++[10]++rep++[10]
def tI(st:List UInt8×List UInt8)(r:sy):List UInt8×List UInt8:=(r.own,st.2++(if r.own=st.1 then []else sJ r.own)++pc r.met r.rep)
def jJ(i:Nat):List UInt8×List UInt8:=(dE.take i).foldl tI ([],[])
theorem yc:(jJ 10).2=cD:=by decide +kernel
theorem yK:∀i,i<11→(jJ i).2.length≤1000:=by decide +kernel
theorem yJ:dE.length=10:=rfl
theorem xR:∀r∈dE,r.line.length≤100∧r.own.length≤100∧r.met.length≤100∧r.code.length≤100∧r.rep.length≤100:=by decide +kernel
theorem ue{i:Nat}(hi:i<dE.length):jJ (i+1)=tI (jJ i) dE[i]:=by
  rw[jJ,List.take_succ_eq_append_getElem hi,List.foldl_append];rfl
end Go.AM
namespace Go.AM
abbrev Tx:=List UInt8
def tb(l:Tx):ByteArray:=⟨l.toArray⟩
def ay(b:UInt8):Tx→List Tx
  | []=>[[]]
  | c::r=>if c=b then []::ay b r else (match ay b r with|x::xs=>(c::x)::xs|[]=>[[c]])
theorem gY(b:UInt8):∀l,ay b l≠[]
  | []=>by simp[ay]
  | c::r=>by
    unfold ay
    split
    · simp
    · split<;>simp
def fU:Nat→Tx
  | 1=>[99,111,110,115,116]|2=>[97,114,103]|3=>[115,108,111,116]|4=>[115,101,108,102]|5=>[97,100,100]|6=>[115,101,110,100]
  | 7=>[110,101,119]|8=>[115,101,116]|9=>[115,107,105,112]|10=>[114,101,116,117,114,110]|_=>[]
structure aW where
  op:Int
  a:Int
  b:Int
  c:Int
  d:Int
  name:Tx
  deriving DecidableEq
def aW.D(x:aW):aj:=⟨x.op,x.a,x.b,x.c,x.d,tb x.name⟩
def xp:Nat→Nat→Tx
  | 0,_=>[]
  | f+1,n=>if n<10 then [UInt8.ofNat (48+n)]else xp f (n / 10)++[UInt8.ofNat (48+n % 10)]
def jD(s:Tx):Option Nat:=
  let n:=s.foldl (fun(a:Nat) (c:UInt8)=>10*a+(c.toNat-48)) 0
  if s.all (fun c=>decide (48≤c.toNat) && decide (c.toNat≤57)) && decide (s.length≤13) && decide (xp 20 n=s) && decide (n≤1000000000000)then some n else none
def cu(ws:List Tx)(i:Nat):Int:=match ws[i]? with|some w=>(match jD w with|some n=>(n:Int)|none=>-1)|none=>-1
def hO(w:Tx):Nat:=((List.range 10).map (· + 1)).find? (fun k=>fU k=w) |>.getD 0
def Cj(s:Tx):Bool:=decide (1≤s.length) && (decide (s.length≤6) && s.all fun c=>decide (97≤c.toNat) && decide (c.toNat≤122))
def iN(n:Int):Bool:=decide (0≤n) && decide (n≤7)
def H8(x:aW):Bool:=(decide (x.c = -1) && decide (x.d = -1)) || (iN x.c && (decide (x.d = -1) || iN x.d))
def Gb(n lo hi:Int):Bool:=decide (lo≤n) && decide (n≤hi)
def jC(x:aW):Bool:=decide (x.c=0) && (decide (x.d=0) && decide (x.name=[]))
def jG(x:aW):Bool:=
  if x.op=1 then jC x && (iN x.a && Gb x.b 0 999999)
  else if x.op=2 then jC x && (iN x.a && Gb x.b 0 1)
  else if x.op=3 then jC x && (iN x.a && Gb x.b 0 2)
  else if x.op=4∨x.op=10 then jC x && (iN x.a && decide (x.b=0))
  else if x.op=5 then iN x.a && (iN x.b && (iN x.c && (decide (x.d=0) && decide (x.name=[]))))
  else if x.op=6 then iN x.a && (iN x.b && (H8 x && Cj x.name))
  else if x.op=7 then iN x.a && (decide (x.b=0) && (H8 x && Cj x.name))
  else if x.op=8 then jC x && (Gb x.a 0 2 && iN x.b)
  else if x.op=9 then jC x && (iN x.a && Gb x.b 1 12)
  else false
def fF(n:Int):Tx:=if n<0 then 45::xp 20 n.natAbs else xp 20 n.natAbs
def sp(s:Tx):Tx:=32::s
def ga(x:aW):Tx:=
  if jG x=false then []else
  let s:=fU x.op.toNat
  let tail:=fun s:Tx=>let s:=if x.c = -1 then s else s++sp (fF x.c);if x.d = -1 then s else s++sp (fF x.d)
  if x.op=4∨x.op=10 then s++sp (fF x.a)
  else if x.op=5 then s++sp (fF x.a)++sp (fF x.b)++sp (fF x.c)
  else if x.op=6 then tail (s++sp (fF x.a)++sp (fF x.b)++sp x.name)
  else if x.op=7 then tail (s++sp (fF x.a)++sp x.name)
  else s++sp (fF x.a)++sp (fF x.b)
def Dg(ws:List Tx):aW:=
  let op:=hO (ws.headD [])
  let x:aW:=⟨op,cu ws 1,0,0,0,[]⟩
  if op=4∨op=10 then x
  else if op=5 then { x with b:=cu ws 2,c:=cu ws 3 }
  else if op=6 then { x with b:=cu ws 2,c:=cu ws 4,d:=cu ws 5,name:=ws.getD 3 [] }
  else if op=7 then { x with c:=cu ws 3,d:=cu ws 4,name:=ws.getD 2 [] }
  else { x with b:=cu ws 2 }
def tA(s:Tx):Option aW:=let x:=Dg (ay 32 s);if jG x=true∧ga x=s then some x else none
structure bA where
  name:Tx
  code:List aW
  deriving DecidableEq
structure aC where
  name:Tx
  methods:List bA
  deriving DecidableEq
def aM:Tx:=[115,99,114,105,112,116,32]
def aN:Tx:=[109,101,116,104,111,100,32]
def su{α:Type}(l:List α)(f:α→α):List α:=match l.reverse with|x::r=>(f x::r).reverse|[]=>[]
def IV(l:List aC)(line:Tx):Option (List aC):=
  if 7<line.length∧line.take 7=aM then some (l++[⟨line.drop 7,[]⟩])
  else if l≠[]∧7<line.length∧line.take 7=aN then some (su l fun s=>{ s with methods:=s.methods++[⟨line.drop 7,[]⟩] })
  else match tA line with
    | some x=>(match l.getLast? with
      | some s=>if s.methods=[]then none else some (su l fun s=>{ s with methods:=su s.methods fun m=>{ m with code:=m.code++[x] } })
      | none=>none)
    | none=>none
def lZ(t:Tx):List Tx:=(ay 10 t).dropLast
def HX(t:Tx):Option (List aC):=(lZ t).foldl (fun(o:Option (List aC)) line=>o.bind fun l=>IV l line) (some [])
def eg:List aC:=(HX cD).getD []
def fmtS(s:aC):Tx:=aM++s.name++[10]++(s.methods.map fun m=>aN++m.name++[10]++(m.code.map fun x=>ga x++[10]).flatten).flatten
theorem qY:(eg.map fmtS).flatten=cD:=by decide +kernel
end Go.AM
namespace Go.AM
def jh(b:UInt8)(ps:List Tx)(c:UInt8):List Tx:=if c=b then ps++[[]]else ps.dropLast++[ps.getLast?.getD []++[c]]
theorem iJ{b c:UInt8}{p:Tx}{ps:List Tx}(h:ps≠[]):jh b (p::ps) c=p::jh b ps c:=by
  unfold jh
  split
  · rfl
  · cases ps with
    | nil=>exact absurd rfl h
    | cons q r=>simp[List.getLast?_cons_cons]
theorem j3(b:UInt8)(c:UInt8):∀l,ay b (l++[c])=jh b (ay b l) c
  | []=>by
    simp only[List.nil_append,ay,jh]
    split<;>simp
  | d::r=>by
    have ih:=j3 b c r
    simp only[List.cons_append,ay]
    split
    · rw[ih,iJ (gY b r)]
    · rw[ih]
      cases hs:ay b r with
      | nil=>exact absurd hs (gY b r)
      | cons x xs=>
        cases xs with
        | nil=>
          by_cases hc:c=b<;>simp[jh,hc]
        | cons y ys=>
          have e1:=iJ (b:=b) (c:=c) (p:=x) (ps:=y::ys) (by simp)
          have e2:=iJ (b:=b) (c:=c) (p:=d::x) (ps:=y::ys) (by simp)
          rw[e1,e2]
theorem jY{b:UInt8}{l:Tx}{i:Nat}(hi:i<l.length):ay b (l.take (i+1))=jh b (ay b (l.take i)) l[i]:=by
  rw[List.take_succ_eq_append_getElem hi,j3]
def bc:List Tx:=(lZ cD).filter fun l=>!(decide (l.take 7=aM) || decide (l.take 7=aN))
theorem yZ:bc.all (fun s=>(tA s).isSome && (ay 32 s).all fun w=>decide (w≠[]) && decide (w.length≤6))=true:=by decide +kernel
end Go.AM
namespace Go.AM
def bA.D(m:bA):ah:=⟨tb m.name,m.code.map aW.D⟩
def aC.D(s:aC):ae:=⟨tb s.name,s.methods.map bA.D⟩
def Cq(v:ByteArray):Bool:=(decide ((1:Int)≤v.size) && decide ((v.size:Int)≤6)) && (List.range v.size).all fun k=>decide (97≤(bP v k:Int)) && decide ((bP v k:Int)≤122)
def fB(n:Int):Bool:=decide (0≤n) && decide (n≤7)
def qx(n lo hi:Int):Bool:=decide (lo≤n) && decide (n≤hi)
def pU(x:aj):Bool:=(decide (x.c_ = -1) && decide (x.d = -1)) || (fB x.c_ && (decide (x.d = -1) || fB x.d))
def eH(x:aj):Bool:=decide (x.c_=0) && (decide (x.d=0) && decide (x.name=tb []))
def dz(x:aj):Bool:=
  if x.op=1 then eH x && (fB x.a && qx x.b 0 999999)
  else if x.op=2 then eH x && (fB x.a && qx x.b 0 1)
  else if x.op=3 then eH x && (fB x.a && qx x.b 0 2)
  else if x.op=4∨x.op=10 then eH x && (fB x.a && decide (x.b=0))
  else if x.op=5 then fB x.a && (fB x.b && (fB x.c_ && (decide (x.d=0) && decide (x.name=tb []))))
  else if x.op=6 then fB x.a && (fB x.b && (pU x && Cq x.name))
  else if x.op=7 then fB x.a && (decide (x.b=0) && (pU x && Cq x.name))
  else if x.op=8 then eH x && (qx x.a 0 2 && fB x.b)
  else if x.op=9 then eH x && (fB x.a && qx x.b 1 12)
  else false
def kR(m:ah):Bool:=m.code.all dz && (Cq m.name && decide (m.code.length≤12))
def wF(l:List ah):Bool:=(List.range l.length).all fun i=>(List.range i).all fun k=>decide ((l[k]?.map ah.name)≠(l[i]?.map ah.name))
def sF(s:ae):Bool:=s.methods.all kR && (wF s.methods && (Cq s.name && decide (s.methods.length≤4)))
def uL(l:List ae):Bool:=l.all sF && ((List.range l.length).all fun i=>(List.range i).all fun k=>decide ((l[k]?.map ae.name)≠(l[i]?.map ae.name))) && decide (l.length≤6)
def de:List ae:=eg.map aC.D
theorem ku:uL de=true:=by decide +kernel
theorem kU:de.length=4:=by decide +kernel
end Go.AM
namespace Go.AM
end Go.AM
namespace Go.AM
theorem bM.row{H:AH}{w:AV}{sz:Nat}{xs:List (List CD)}{fp:List Nat}(o:bM H w (.sl sz xs) fp)(nd:fp.Nodup){k:Nat}(hk:k<xs.length):
    ∃b g az f,bN sz w (k:Int)=some (.gp b g (k*sz))∧b<H.length∧b∈fp∧(∀(e:List AV) (L:List (List AV)),(St.mk e L H).cells (.gp b g (k*sz)) sz=some az)∧
      (∀(e:List AV) (L:List (List AV)) (off n:Nat),off+n≤sz→(St.mk e L H).cells (.gp b g (k*sz+off)) n=sub az off n)∧aJ H az xs[k] f∧f.Nodup∧(∀c∈f,c∈fp)∧az.length=sz:=by
  rcases o.gf with⟨rfl,e,rfl⟩|⟨b,g,cap,ex,az,tail,fp',rfl,rfl,hg,hsz,ht,hc,hown⟩
  · subst e;simp at hk
  obtain⟨nb,nd'⟩:=List.nodup_cons.1 nd
  have hfl:xs.flatten=(xs.take k).flatten++(xs[k]++(xs.drop (k+1)).flatten):=by
    rw[←List.flatten_cons,←List.drop_eq_getElem_cons hk,←List.flatten_append,List.take_append_drop]
  rw[hfl]at hown
  obtain⟨a1,a2,f1,f2,e1,e2,o1,o2⟩:=hown.split
  obtain⟨a3,a4,f3,f4,e3,e4,o3,o4⟩:=o2.split
  subst e1 e2 e3 e4
  have l1:a1.length=k*sz:=by
    rw[o1.len]
    have:∀(ys:List (List CD)),(∀l∈ys,l.length=sz)→ys.flatten.length=ys.length*sz:=fun ys=>by
      induction ys with
      | nil=>intro _;simp
      | cons y ys ih=>intro h;rw[List.flatten_cons,List.length_append,ih (fun l hl=>h l (by simp[hl])),h y (by simp),List.length_cons,Nat.add_mul];omega
    rw[this _ (fun l hl=>hsz l (List.mem_of_mem_take hl)),List.length_take,Nat.min_eq_left (by omega)]
  have l3:a3.length=sz:=by rw[o3.len];exact hsz _ (List.getElem_mem hk)
  have hcell:∀(e:List AV) (L:List (List AV)) (off n:Nat),off+n≤sz→(St.mk e L H).cells (.gp b g (k*sz+off)) n=sub a3 off n:=fun e L off n hn=>by
    rw[eN hg]
    unfold sub
    rw[if_pos (by simp;omega),if_pos (by omega)]
    congr 1
    rw[List.append_assoc,List.drop_append,List.drop_eq_nil_of_le (by omega),List.nil_append,l1,Nat.add_sub_cancel_left,List.append_assoc,List.drop_append_of_le_length (by omega),List.take_append_of_le_length (by rw[List.length_drop];omega)]
  obtain⟨n1,n2,n3⟩:=List.nodup_append.1 nd'
  obtain⟨n4,n5,n6⟩:=List.nodup_append.1 n2
  refine⟨b,g,a3,f3,by have:=fW (b:=b) (g:=g) (off:=0) (len:=xs.length) (cap:=cap) (sz:=sz) (ex:=ex) hk;rwa[Nat.zero_add]at this,cw hg,by simp,fun e L=>?_,hcell,o3,n4,fun c hc=>by simp[hc],l3⟩
  have:=hcell e L 0 sz (by omega)
  rw[Nat.add_zero]at this
  rw[this];unfold sub;rw[if_pos (by omega),List.drop_zero,←l3,List.take_length]
end Go.AM
namespace Go.AM
theorem wA{pre row post:List AV}{i n:Nat}(hi:i+n≤row.length):sub (pre++row++post) (pre.length+i) n=sub row i n:=by
  unfold sub
  rw[if_pos (by simp;omega),if_pos hi,List.append_assoc,List.drop_append,List.drop_eq_nil_of_le (by omega),List.nil_append,Nat.add_sub_cancel_left,List.drop_append_of_le_length (by omega),List.take_append_of_le_length (by rw[List.length_drop];omega)]
theorem uy{pre row post vs:List AV}{i:Nat}(hi:i+vs.length≤row.length):over (pre++row++post) (pre.length+i) vs=pre++over row i vs++post:=by
  unfold over
  rw[List.append_assoc pre row post,List.take_append,List.take_of_length_le (show pre.length≤pre.length+i by omega),Nat.add_sub_cancel_left,List.take_append_of_le_length (show i≤row.length by omega),
    List.drop_append,List.drop_eq_nil_of_le (show pre.length≤pre.length+i+vs.length by omega),List.nil_append,show pre.length+i+vs.length-pre.length=i+vs.length by omega,List.drop_append_of_le_length hi]
  simp only[List.append_assoc]
structure kb (H:AH) (b g:Nat) (pre row post:List AV):Prop where
  eq:aS H b=some (g,pre++row++post)
theorem kb.lt{H:AH}{b g:Nat}{pre row post:List AV}(m:kb H b g pre row post):b<H.length:=cw m.eq
theorem kb.cells{H:AH}{b g:Nat}{pre row post:List AV}(m:kb H b g pre row post)(e:List AV)(L:List (List AV))(i n:Nat)(hi:i+n≤row.length):(St.mk e L H).cells (.gp b g (pre.length+i)) n=sub row i n:=by
  rw[eN m.eq,wA hi]
theorem kb.sH{H:AH}{b g:Nat}{pre row post:List AV}(m:kb H b g pre row post)(e:List AV)(L:List (List AV))(n:Nat)(hi:n≤row.length):(St.mk e L H).cells (.gp b g pre.length) n=sub row 0 n:=by
  have:=m.cells e L 0 n (by omega);rwa[Nat.add_zero]at this
theorem kb.frame{H H':AH}{b g:Nat}{pre row post:List AV}(m:kb H b g pre row post)(h:H'[b]? = H[b]?):kb H' b g pre row post:=⟨by have:=m.eq;unfold aS at this ⊢;rw[h];exact this⟩
theorem kb.store{H:AH}{b g:Nat}{pre row post:List AV}(m:kb H b g pre row post){i:Nat}{vs:List AV}(hi:i+vs.length≤row.length)(hv:vs.all aK=true):
    ∃H',(∀(e:List AV) (L:List (List AV)),(St.mk e L H).store (.gp b g (pre.length+i)) vs=some ⟨e,L,H'⟩)∧kb H' b g pre (over row i vs) post∧H'.length=H.length∧∀c,c≠b→H'[c]? = H[c]?:=by
  refine⟨H.set b (some (g,pre++over row i vs++post)),fun e L=>?_,⟨?_⟩,by simp,fun c hc=>List.getElem?_set_ne (Ne.symm hc)⟩
  · simp only[St.store,m.eq,Option.bind_some,if_true]
    rw[if_pos (by simp;omega),hv,if_pos rfl,uy hi]
  · have:=m.lt
    simp[aS,this]
theorem kb.nil{H:AH}{b g:Nat}{row:List AV}(h:aS H b=some (g,row)):kb H b g [] row []:=⟨by simpa using h⟩
theorem kb.snap{H:AH}{b g:Nat}{pre row post ys:List AV}(m:kb H b g pre row post)(s:et H (.agg row) (.agg ys)):et H (.gp b g pre.length) (.ip true ys):=by
  have key:∀(i:Nat) (y:AV),ys[i]? = some y→∃x,row[i]? = some x∧et H x y:=by
    cases s with
    | same=>exact fun i y hy=>⟨y,hy,.same _⟩
    | agg _ _ h1 f h2 r=>exact fun i y hy=>⟨f i,h2 i y hy,r i y hy⟩
  refine .gp b g pre.length (pre++row++post) ys (fun i=>row.getD i .any) (bb m.eq) (fun j x hx=>?_) (fun j x hx=>?_)
  · obtain⟨z,hz,_⟩:=key j x hx
    have hj:=ar hz
    rw[List.append_assoc,List.getElem?_append_right (by omega),Nat.add_sub_cancel_left,List.getElem?_append_left hj,hz]
    simp[List.getD_eq_getElem?_getD,hz]
  · obtain⟨z,hz,hs⟩:=key j x hx
    simpa[List.getD_eq_getElem?_getD,hz]using hs
theorem bM.yI{H:AH}{w:AV}{sz:Nat}{xs:List (List CD)}{fp:List Nat}(o:bM H w (.sl sz xs) fp)(nd:fp.Nodup){k:Nat}(hk:k<xs.length):
    ∃b g pre row post f,bN sz w (k:Int)=some (.gp b g pre.length)∧kb H b g pre row post∧row.length=sz∧aJ H row xs[k] f∧f.Nodup∧(∀c∈f,c∈fp)∧b∈fp∧b∉f∧
      ∀(H':AH) (row':List AV) (d':List CD) (f':List Nat),aJ H' row' d' f'→f'.Nodup→d'.length=sz→(∀c∈f',c∈f∨c∉fp)→kb H' b g pre row' post→(∀c∈fp,c∉f→c≠b→H'[c]? = H[c]?)→
        ∃fp',bM H' w (.sl sz (xs.set k d')) fp'∧fp'.Nodup∧(∀c∈fp',c∈fp∨c∈f'):=by
  rcases o.gf with⟨rfl,e,rfl⟩|⟨b,g,cap,ex,az,tail,fp',rfl,rfl,hg,hsz,ht,hc,hown⟩
  · subst e;simp at hk
  obtain⟨nb,nd'⟩:=List.nodup_cons.1 nd
  have hfl:∀d:List CD,(xs.set k d).flatten=(xs.take k).flatten++(d++(xs.drop (k+1)).flatten):=fun d=>by
    rw[←List.flatten_cons,←List.flatten_append,List.set_eq_take_append_cons_drop,if_pos hk]
  have hf0:=hfl xs[k]
  rw[List.set_getElem_self]at hf0
  rw[hf0]at hown
  obtain⟨a1,a2,f1,f2,e1,e2,o1,o2⟩:=hown.split
  obtain⟨a3,a4,f3,f4,e3,e4,o3,o4⟩:=o2.split
  subst e1 e2 e3 e4
  have l1:a1.length=k*sz:=by
    rw[o1.len]
    have:∀(ys:List (List CD)),(∀l∈ys,l.length=sz)→ys.flatten.length=ys.length*sz:=fun ys=>by
      induction ys with
      | nil=>intro _;simp
      | cons y ys ih=>intro h;rw[List.flatten_cons,List.length_append,ih (fun l hl=>h l (by simp[hl])),h y (by simp),List.length_cons,Nat.add_mul];omega
    rw[this _ (fun l hl=>hsz l (List.mem_of_mem_take hl)),List.length_take,Nat.min_eq_left (by omega)]
  have l3:a3.length=sz:=by rw[o3.len];exact hsz _ (List.getElem_mem hk)
  obtain⟨n1,n2,n3⟩:=List.nodup_append.1 nd'
  obtain⟨n4,n5,n6⟩:=List.nodup_append.1 n2
  refine⟨b,g,a1,a3,a4++tail,f3,by have:=fW (b:=b) (g:=g) (off:=0) (len:=xs.length) (cap:=cap) (sz:=sz) (ex:=ex) hk;rwa[Nat.zero_add,←l1]at this,⟨by rw[hg];simp⟩,l3,o3,n4,fun c hc=>by simp[hc],by simp,fun hb=>nb (by simp[hb]),?_⟩
  intro H' row' d' f' o' nd2 hdl hf' hm fr
  have hbf':b∉f':=fun hb=>by
    rcases hf' b hb with q|q
    · exact nb (by simp[q])
    · exact q (by simp)
  have d1:∀c∈f',c∉f1:=fun c hc h1=>by
    rcases hf' c hc with q|q
    · exact n3 c h1 c (List.mem_append_left _ q) rfl
    · exact q (by simp[h1])
  have d4:∀c∈f',c∉f4:=fun c hc h1=>by
    rcases hf' c hc with q|q
    · exact n6 c q c h1 rfl
    · exact q (by simp[h1])
  have o1':=o1.frame (h':=H') fun c hc=>fr c (by simp[hc]) (fun h3=>n3 c hc c (List.mem_append_left _ h3) rfl) (fun e=>nb (by rw[←e];simp[hc]))
  have o4':=o4.frame (h':=H') fun c hc=>fr c (by simp[hc]) (fun h3=>n6 c h3 c hc rfl) (fun e=>nb (by rw[←e];simp[hc]))
  refine⟨b::(f1++(f'++f4)),?_,List.nodup_cons.2 ⟨?_,List.nodup_append.2 ⟨n1,List.nodup_append.2 ⟨nd2,n5,fun x hx y hy e=>d4 x hx (e▸hy)⟩,fun x hx y hy e=>?_⟩⟩,fun c hc=>?_⟩
  · have:=bM.sl_mk (h:=H') (b:=b) (g:=g) (cap:=cap) (sz:=sz) (ex:=ex) («as»:=a1++(row'++a4)) (tail:=tail) (xs:=xs.set k d') (fp:=f1++(f'++f4))
      (by rw[hm.eq];simp) (fun y hy=>by
        rcases List.mem_or_eq_of_mem_set hy with g|g
        · exact hsz y g
        · rw[g,hdl]) ht (by simpa using hc) (by rw[hfl];exact o1'.append (o'.append o4'))
    simpa using this
  · simp only[List.mem_append,not_or]
    exact⟨fun h=>nb (by simp[h]),hbf',fun h=>nb (by simp[h])⟩
  · subst e
    rcases List.mem_append.1 hy with q|q
    · exact d1 x q hx
    · exact n3 x hx x (List.mem_append_right _ q) rfl
  · simp only[List.mem_cons,List.mem_append]at hc ⊢
    rcases hc with q|q|q|q
    · exact .inl (.inl q)
    · exact .inl (.inr (.inl q))
    · exact .inr q
    · exact .inl (.inr (.inr (.inr q)))
end Go.AM
namespace Go.AM
section
variable {P:Program} {Θ:gQ} {Γ:aZ}
theorem kD{f g:Nat→D→Prop}:∀{ds:List (Nat×D)},(∀i d,f i d→g i d)→kK f ds→kK g ds
  | [],_,_=>trivial
  | (_,_)::_,h,a=>⟨h _ _ a.1,kD h a.2⟩
theorem lE{f g:Nat→Option (List Nat)→D→Prop}:∀{ds:List (Nat×Option (List Nat)×D)},(∀i b d,f i b d→g i b d)→jd f ds→jd g ds
  | [],_,_=>trivial
  | (_,_,_)::_,h,a=>⟨h _ _ _ a.1,lE h a.2⟩
theorem fJ{gl:Gl}{os:List O}{K K':St→Prop}(hk:∀s,K s→K' s):∀(n:Nat) (d:D) (s:St),bK P Γ gl os K n d s→bK P Γ gl os K' n d s
  | 0,.done,s,h=>hk s h
  | n+1,.done,s,h=>hk s h
  | n+1,.q i d,s,h=>dy (fun s' h=>fJ hk n d s' h) h
  | n+1,.st i rs d,s,h=>dy (fun s' h=>⟨h.1,fJ hk n d s' h.2⟩) h
  | n+1,.all ds,s,h=>kD (fun i d h=>dy (fun s' h=>⟨h.1,fJ hk n d s' h.2⟩) h) h
  | n+1,.mix ds,s,h=>lE (fun i b d h=>dy (fun s' h=>⟨h.1,fJ hk n d s' h.2⟩) h) h
  | 0,.mix _,_,h=>h.elim
  | 0,.q _ _,_,h=>h.elim
  | 0,.st _ _ _,_,h=>h.elim
  | 0,.all _,_,h=>h.elim
theorem px{gl:Gl}:∀(c:C) {Q Q':AE→St→Prop} (s:St),(∀e s,Q e s→Q' e s)→aw P Θ Γ gl c Q s→aw P Θ Γ gl c Q' s:=by
  intro c
  induction c with
  | skip=>exact fun s hq h=>hq _ s h
  | reg os=>exact fun s hq h=>dT os s (hq _) h
  | regD os af=>
    intro Q Q' s hq h
    simp only[aw]at h ⊢
    split at h
    · exact fJ (hq _) _ _ s h
    · exact h.elim
  | seq a b iha ihb=>
    intro Q Q' s hq h
    exact iha s (fun e s he=>by cases e<;>simp only[eQ]at he ⊢<;>first|exact ihb s hq he|exact hq _ s he) h
  | cond c a b iha ihb=>
    intro Q Q' s hq h
    simp only[aw]at h ⊢
    split at h
    · exact⟨fun ht=>iha s hq (h.1 ht),fun ht=>ihb s hq (h.2 ht)⟩
    · exact h.elim
  | block id c ih=>
    intro Q Q' s hq h
    refine ih s (fun e s he=>?_) h
    cases e with
    | normal=>exact hq _ s he
    | exit i=>
      simp only[dX]at he ⊢
      split at he
      · rename_i hi;rw[if_pos hi];exact hq _ s he
      · rename_i hi;rw[if_neg hi];exact hq _ s he
    | ret=>exact hq _ s he
  | loop c=>exact fun s hq h=>TC.mono h hq
  | exit id=>exact fun s hq h=>hq _ s h
  | ret=>exact fun s hq h=>hq _ s h
def xb(R:St→Prop)(Q:AE→St→Prop):AE→St→Prop
  | .normal,s=>R s
  | e,s=>Q e s
theorem ES(R:St→Prop)(Q:AE→St→Prop):xb R Q .normal=R:=rfl
theorem Dx(R:St→Prop)(Q:AE→St→Prop):xb R Q .ret=Q .ret:=rfl
theorem GA(R:St→Prop)(Q:AE→St→Prop)(i:Nat):xb R Q (.exit i)=Q (.exit i):=rfl
theorem Dj{gl:Gl}{a b:C}{Q:AE→St→Prop}{s:St}(R:St→Prop)(h1:aw P Θ Γ gl a (xb R Q) s)(h2:∀s,R s→aw P Θ Γ gl b Q s):aw P Θ Γ gl (.seq a b) Q s:=
  px a s (fun e s he=>by cases e<;>first|exact h2 s he|exact he) h1
theorem yY{gl:Gl}{a b c:C}{Q:AE→St→Prop}{s:St}(R:St→Prop)(h1:aw P Θ Γ gl (.seq a b) (xb R Q) s)(h2:∀s,R s→aw P Θ Γ gl c Q s):aw P Θ Γ gl (.seq a (.seq b c)) Q s:=
  px a s (fun e s he=>by
    cases e with
    | normal=>exact px b s (fun e s he=>by cases e<;>first|exact h2 s he|exact he) he
    | exit i=>exact he
    | ret=>exact he) h1
def sg(e:List AV)(n:Nat):AV:=e.getD n .any
theorem wR{e:List AV}{loc:List (List AV)}{h:AH}{n:Nat}(hn:e.length=n):(⟨e,loc,h⟩:St)=⟨(List.range n).map (sg e),loc,h⟩:=by
  subst hn
  congr 1
  apply List.ext_getElem (by simp)
  intro i h1 h2
  simp[sg,List.getD_eq_getElem?_getD,List.getElem?_eq_getElem h1]
end
theorem r7:type_of% (And.intro @ES (And.intro @Dx @GA)):=And.intro @ES (And.intro @Dx @GA)
end Go.AM
namespace Go.AM
section
variable {P:Program} {Θ:gQ} {Γ:aZ}
end
end Go.AM
namespace Go.AM
section
variable {H:AH} {b:Nat} {v:eV} {wE w2 wL w4:AV} {fE f2 fL f4:List Nat}
end
section
variable {H H':AH} {b:Nat} {v:eV} {wE w2 wL w4:AV} {fE f2 fL f4 G:List Nat}
end
end Go.AM
namespace Go.AM
theorem bM.wU{H:AH}{w:AV}{sz:Nat}{xs:List (List CD)}{fp:List Nat}(o:bM H w (.sl sz xs) fp)(nd:fp.Nodup){k:Nat}(hk:k<xs.length):
    ∃b g pre row post f,bN sz w (k:Int)=some (.gp b g pre.length)∧kb H b g pre row post∧row.length=sz∧aJ H row xs[k] f∧f.Nodup∧(∀c∈f,c∈fp)∧b∈fp∧b∉f∧
      ∀(H':AH) (row':List AV) (d':List CD) (f':List Nat),aJ H' row' d' f'→f'.Nodup→d'.length=sz→(∀c∈f',c∈f∨c∉fp)→kb H' b g pre row' post→(∀c∈fp,c∉f→c≠b→H'[c]? = H[c]?)→
        ∃fp',bM H' w (.sl sz (xs.set k d')) fp'∧fp'.Nodup∧(∀c∈fp',(c∈fp∧c∉f)∨c∈f'):=by
  rcases o.gf with⟨rfl,e,rfl⟩|⟨b,g,cap,ex,az,tail,fp',rfl,rfl,hg,hsz,ht,hc,hown⟩
  · subst e;simp at hk
  obtain⟨nb,nd'⟩:=List.nodup_cons.1 nd
  have hfl:∀d:List CD,(xs.set k d).flatten=(xs.take k).flatten++(d++(xs.drop (k+1)).flatten):=fun d=>by
    rw[←List.flatten_cons,←List.flatten_append,List.set_eq_take_append_cons_drop,if_pos hk]
  have hf0:=hfl xs[k]
  rw[List.set_getElem_self]at hf0
  rw[hf0]at hown
  obtain⟨a1,a2,f1,f2,e1,e2,o1,o2⟩:=hown.split
  obtain⟨a3,a4,f3,f4,e3,e4,o3,o4⟩:=o2.split
  subst e1 e2 e3 e4
  have l1:a1.length=k*sz:=by
    rw[o1.len]
    have:∀(ys:List (List CD)),(∀l∈ys,l.length=sz)→ys.flatten.length=ys.length*sz:=fun ys=>by
      induction ys with
      | nil=>intro _;simp
      | cons y ys ih=>intro h;rw[List.flatten_cons,List.length_append,ih (fun l hl=>h l (by simp[hl])),h y (by simp),List.length_cons,Nat.add_mul];omega
    rw[this _ (fun l hl=>hsz l (List.mem_of_mem_take hl)),List.length_take,Nat.min_eq_left (by omega)]
  have l3:a3.length=sz:=by rw[o3.len];exact hsz _ (List.getElem_mem hk)
  obtain⟨n1,n2,n3⟩:=List.nodup_append.1 nd'
  obtain⟨n4,n5,n6⟩:=List.nodup_append.1 n2
  refine⟨b,g,a1,a3,a4++tail,f3,by have:=fW (b:=b) (g:=g) (off:=0) (len:=xs.length) (cap:=cap) (sz:=sz) (ex:=ex) hk;rwa[Nat.zero_add,←l1]at this,⟨by rw[hg];simp⟩,l3,o3,n4,fun c hc=>by simp[hc],by simp,fun hb=>nb (by simp[hb]),?_⟩
  intro H' row' d' f' o' nd2 hdl hf' hm fr
  have hbf':b∉f':=fun hb=>by
    rcases hf' b hb with q|q
    · exact nb (by simp[q])
    · exact q (by simp)
  have d1:∀c∈f',c∉f1:=fun c hc h1=>by
    rcases hf' c hc with q|q
    · exact n3 c h1 c (List.mem_append_left _ q) rfl
    · exact q (by simp[h1])
  have d4:∀c∈f',c∉f4:=fun c hc h1=>by
    rcases hf' c hc with q|q
    · exact n6 c q c h1 rfl
    · exact q (by simp[h1])
  have o1':=o1.frame (h':=H') fun c hc=>fr c (by simp[hc]) (fun h3=>n3 c hc c (List.mem_append_left _ h3) rfl) (fun e=>nb (by rw[←e];simp[hc]))
  have o4':=o4.frame (h':=H') fun c hc=>fr c (by simp[hc]) (fun h3=>n6 c h3 c hc rfl) (fun e=>nb (by rw[←e];simp[hc]))
  refine⟨b::(f1++(f'++f4)),?_,List.nodup_cons.2 ⟨?_,List.nodup_append.2 ⟨n1,List.nodup_append.2 ⟨nd2,n5,fun x hx y hy e=>d4 x hx (e▸hy)⟩,fun x hx y hy e=>?_⟩⟩,fun c hc=>?_⟩
  · have:=bM.sl_mk (h:=H') (b:=b) (g:=g) (cap:=cap) (sz:=sz) (ex:=ex) («as»:=a1++(row'++a4)) (tail:=tail) (xs:=xs.set k d') (fp:=f1++(f'++f4))
      (by rw[hm.eq];simp) (fun y hy=>by
        rcases List.mem_or_eq_of_mem_set hy with g|g
        · exact hsz y g
        · rw[g,hdl]) ht (by simpa using hc) (by rw[hfl];exact o1'.append (o'.append o4'))
    simpa using this
  · simp only[List.mem_append,not_or]
    exact⟨fun h=>nb (by simp[h]),hbf',fun h=>nb (by simp[h])⟩
  · subst e
    rcases List.mem_append.1 hy with q|q
    · exact d1 x q hx
    · exact n3 x hx x (List.mem_append_right _ q) rfl
  · simp only[List.mem_cons,List.mem_append]at hc ⊢
    rcases hc with q|q|q|q
    · exact .inl ⟨.inl q,fun h=>nb (by rw[←q];simp[h])⟩
    · exact .inl ⟨.inr (.inl q),fun h=>n3 c q c (List.mem_append_left _ h) rfl⟩
    · exact .inr q
    · exact .inl ⟨.inr (.inr (.inr q)),fun h=>n6 c h c q rfl⟩
theorem aJ.rows{H:AH}{sz:Nat}:∀{xs:List (List CD)} {az:List AV} {fp:List Nat},aJ H az xs.flatten fp→(∀l∈xs,l.length=sz)→fp.Nodup→
    ∃fpr:Nat→List Nat,∀(j:Nat) (hj:j<xs.length),aJ H ((az.drop (j*sz)).take sz) xs[j] (fpr j)∧(fpr j).Nodup∧(∀c∈fpr j,c∈fp)∧∀j',j'<xs.length→j'≠j→∀c∈fpr j,c∉fpr j'
  | [],_,_,_,_,_=>⟨fun _=>[],fun j hj=>by simp at hj⟩
  | x::xs,az,fp,o,hs,nd=>by
    rw[List.flatten_cons]at o
    obtain⟨a1,a2,f1,f2,rfl,rfl,o1,o2⟩:=o.split
    obtain⟨n1,n2,n3⟩:=List.nodup_append.1 nd
    obtain⟨g,hg⟩:=aJ.rows o2 (fun l hl=>hs l (by simp[hl])) n2
    have la:a1.length=sz:=by rw[o1.len];exact hs x (by simp)
    refine⟨fun j=>match j with|0=>f1|j+1=>g j,fun j hj=>?_⟩
    cases j with
    | zero=>
      refine⟨by simpa[←la]using o1,n1,fun c hc=>by simp[show c∈f1 from hc],fun j' h1 h2 c hc=>?_⟩
      cases j' with
      | zero=>omega
      | succ j'=>exact fun h=>n3 c hc c ((hg j' (by simpa using h1)).2.2.1 c h) rfl
    | succ j=>
      obtain⟨k1,k2,k3,k4⟩:=hg j (by simpa using hj)
      refine⟨?_,k2,fun c hc=>by simp[k3 c hc],fun j' h1 h2 c hc=>?_⟩
      · have e:(j+1)*sz=a1.length+j*sz:=by rw[la,Nat.add_mul];omega
        rw[e,List.drop_append,List.drop_of_length_le (by omega),List.nil_append,Nat.add_sub_cancel_left]
        simpa using k1
      · cases j' with
        | zero=>exact fun h=>n3 c h c (k3 c hc) rfl
        | succ j'=>exact k4 j' (by simpa using h1) (by omega) c hc
theorem bM.rows{H:AH}{w:AV}{sz:Nat}{xs:List (List CD)}{fp:List Nat}(o:bM H w (.sl sz xs) fp)(nd:fp.Nodup):
    ∃(ptr:Nat→AV) (row:Nat→List AV) (fpr:Nat→List Nat) (qb:Nat),∀(j:Nat) (hj:j<xs.length),bN sz w (j:Int)=some (ptr j)∧(∀(H':AH) (e:List AV) (L:List (List AV)),H'[qb]? = H[qb]?→(St.mk e L H').cells (ptr j) sz=some (row j))∧
      aJ H (row j) xs[j] (fpr j)∧(fpr j).Nodup∧(∀c∈fpr j,c∈fp∧c≠qb)∧qb∈fp∧∀j',j'<xs.length→j'≠j→∀c∈fpr j,c∉fpr j':=by
  rcases o.gf with⟨rfl,e,rfl⟩|⟨b,g,cap,ex,az,tail,fp',rfl,rfl,hg,hsz,ht,hc,hown⟩
  · subst e
    exact⟨fun _=>.any,fun _=>[],fun _=>[],0,fun j hj=>by simp at hj⟩
  obtain⟨nb,nd'⟩:=List.nodup_cons.1 nd
  obtain⟨fpr,hf⟩:=hown.rows hsz nd'
  have lz:az.length=xs.length*sz:=by
    rw[hown.len]
    have:∀(ys:List (List CD)),(∀l∈ys,l.length=sz)→ys.flatten.length=ys.length*sz:=fun ys=>by
      induction ys with
      | nil=>intro _;simp
      | cons y ys ih=>intro h;rw[List.flatten_cons,List.length_append,ih (fun l hl=>h l (by simp[hl])),h y (by simp),List.length_cons,Nat.add_mul];omega
    exact this _ hsz
  refine⟨fun j=>.gp b g (j*sz),fun j=>(az.drop (j*sz)).take sz,fpr,b,fun j hj=>?_⟩
  obtain⟨k1,k2,k3,k4⟩:=hf j hj
  refine⟨by have:=fW (b:=b) (g:=g) (off:=0) (len:=xs.length) (cap:=cap) (sz:=sz) (ex:=ex) hj;rwa[Nat.zero_add]at this,fun H' e L hb=>?_,k1,k2,fun c hc=>⟨by simp[k3 c hc],fun e=>nb (e▸k3 c hc)⟩,by simp,k4⟩
  have hg':aS H' b=some (g,az++tail):=by rw[dn hb];exact hg
  have hle:j*sz+sz≤az.length:=by rw[lz];calc j*sz+sz=(j+1)*sz:=by rw[Nat.add_mul];omega
    _≤xs.length*sz:=Nat.mul_le_mul_right _ hj
  rw[eN hg',sub,if_pos (by rw[List.length_append];omega),List.drop_append_of_le_length (by omega),List.take_append_of_le_length (by rw[List.length_drop];omega)]
end Go.AM
namespace Go.AM
theorem kb.put{H:AH}{b g:Nat}{pre row post:List AV}(m:kb H b g pre row post)(i:Nat)(vs:List AV)(hi:i+vs.length≤row.length)(hv:vs.all aK=true):
    ∃H',(∀(e:List AV) (L:List (List AV)),(St.mk e L H).store (.gp b g (pre.length+i)) vs=some ⟨e,L,H'⟩)∧kb H' b g pre (over row i vs) post∧H'.length=H.length∧∀c,c≠b→H'[c]? = H[c]?:=m.store hi hv
end Go.AM
namespace Go.AM
theorem bM.gR{H:AH}{w:AV}{xs:List (List CD)}{fp:List Nat}(o:bM H w (.sl 2 xs) fp)(nd:fp.Nodup){k:Nat}(hk:k<xs.length){nm:ByteArray}{sz:Nat}{ys:List (List CD)}(hx:xs[k]=[.s nm,.sl sz ys]):
    ∃b g p wm f,bN 2 w (k:Int)=some (.gp b g p)∧(∀(e:List AV) (L:List (List AV)),(St.mk e L H).cells (.gp b g p) 2=some [.str nm,wm])∧(∀(e:List AV) (L:List (List AV)),(St.mk e L H).cells (.gp b g p) 1=some [.str nm])∧(∀(H':AH),H'[b]? = H[b]?→∀(e:List AV) (L:List (List AV)),(St.mk e L H').cells (.gp b g (p+1)) 1=some [wm])∧
      bM H wm (.sl sz ys) f∧f.Nodup∧(∀c∈f,c∈fp)∧b∈fp∧b∉f∧
      (∀(H':AH) (ys':List (List CD)) (f':List Nat),H.length≤H'.length→bM H' wm (.sl sz ys') f'→f'.Nodup→(∀c∈f',c∈f∨H.length≤c)→(∀c,c<H.length→c∉f→H'[c]? = H[c]?)→
        ∃fp',bM H' w (.sl 2 (xs.set k [.s nm,.sl sz ys'])) fp'∧fp'.Nodup∧∀c∈fp',c∈fp∨H.length≤c)∧
      ∀(H':AH) (wm':AV) (ys':List (List CD)) (f':List Nat),H.length≤H'.length→bM H' wm' (.sl sz ys') f'→f'.Nodup→(∀c∈f',c∈f∨H.length≤c)→(∀c,c<H.length→c∉f→H'[c]? = H[c]?)→
        ∃H'' fp',(∀(e:List AV) (L:List (List AV)),(St.mk e L H').store (.gp b g (p+1)) [wm']=some ⟨e,L,H''⟩)∧H''.length=H'.length∧(∀c,c≠b→H''[c]? = H'[c]?)∧bM H'' w (.sl 2 (xs.set k [.s nm,.sl sz ys'])) fp'∧fp'.Nodup∧∀c∈fp',c∈fp∨H.length≤c:=by
  obtain⟨b,g,pre,row,post,f,iR,mR,lR,oR,nR,sR,bm,bn,close⟩:=o.wU nd hk
  rw[hx]at oR
  simp only[l7,jA,mb]at oR
  obtain⟨_,_,_,_,rfl,rfl,⟨rfl,rfl⟩,⟨wm,_,fm,_,rfl,rfl,om,⟨rfl,rfl⟩⟩⟩:=oR
  simp only[List.nil_append,List.append_nil]at nR sR bn close
  have hlt:∀c∈fp,c<H.length:=o.lt
  have own2:∀{H':AH} {wm':AV} {ys':List (List CD)} {f':List Nat},bM H' wm' (.sl sz ys') f'→aJ H' [.str nm,wm'] [.s nm,.sl sz ys'] f':=fun{H'} {wm'} {ys'} {f'} o'=>by
    have e:f'=f'++[]:=by simp
    rw[e]
    exact .s (.o o' .nil)
  refine⟨b,g,pre.length,wm,fm,iR,fun e L=>by rw[mR.sH e L 2 (by simp)];rfl,fun e L=>by rw[mR.sH e L 1 (by simp)];rfl,fun H' h e L=>by rw[(mR.frame h).cells e L 1 1 (by simp)];rfl,om,nR,sR,bm,bn,fun H' ys' f' hl o' n' b' fr=>?_,fun H' wm' ys' f' hl o' n' b' fr=>?_⟩
  · have m':kb H' b g pre _ post:=mR.frame (fr b (hlt b bm) bn)
    obtain⟨fp',oF,nF,mF⟩:=close H' _ [.s nm,.sl sz ys'] f' (own2 o') n' rfl (fun c hc=>(b' c hc).imp id fun h hm=>by have:=hlt c hm;omega) m' (fun c hc hcf _=>fr c (hlt c hc) hcf)
    exact⟨fp',oF,nF,fun c hc=>by
      rcases mF c hc with q|q
      · exact .inl q.1
      · exact(b' c q).imp (sR c) id⟩
  · have m':kb H' b g pre _ post:=mR.frame (fr b (hlt b bm) bn)
    obtain⟨c1,c2,c3,c4⟩:=o'.cell
    obtain⟨H'',s,m2,l,r⟩:=m'.put 1 [wm'] (by simp) (by simp[c3])
    have nb:∀c∈f',c≠b:=fun c hc e=>by
      rcases b' c hc with q|q
      · exact bn (e▸q)
      · have:=hlt b bm;omega
    obtain⟨fp',oF,nF,mF⟩:=close H'' [.str nm,wm'] [.s nm,.sl sz ys'] f' (own2 (o'.frame fun c hc=>r c (nb c hc))) n' rfl (fun c hc=>(b' c hc).imp id fun h hm=>by have:=hlt c hm;omega) m2 (fun c hc hcf hcb=>by rw[r c hcb];exact fr c (hlt c hc) hcf)
    exact⟨H'',fp',s,l,r,oF,nF,fun c hc=>by
      rcases mF c hc with q|q
      · exact .inl q.1
      · exact(b' c q).imp (sR c) id⟩
end Go.AM
namespace Go.AM
def aX(s:Tx):aW:=Dg (ay 32 s)
def gN(n:Int):Bool:=decide (0≤n) && decide (n≤9)
def qN(w:Tx):Bool:=match w with|[]=>false|c::r=>(decide (r=[]) && decide (48≤c.toNat) && decide (c.toNat≤57)) || decide (97≤c.toNat)
theorem wk:bc.all (fun s=>decide (s.length≤40) && (jG (aX s) && (dz (aX s).D && (decide (ga (aX s)=s) && (gN (aX s).a && (gN (aX s).b && ((decide ((aX s).c = -1) || gN (aX s).c) && ((decide ((aX s).d = -1) || gN (aX s).d) && (decide (1≤(aX s).op) && (decide ((aX s).op≤10) && (decide ((aX s).name.length≤6) && (ay 32 s).all qN)))))))))))=true:=by decide +kernel
theorem xQ{w:Tx}{k:Nat}(h0:1≤k)(h1:k≤10)(hb:∀j,1≤j→j<k→fU j≠w)(hk:fU k=w):hO w=k:=by
  have e:(List.range 10).map (· + 1)=(List.range (k-1)).map (· + 1)++((List.range (10-k+1)).map (· + k)):=by
    have:∀k,k<11→1≤k→(List.range 10).map (· + 1)=(List.range (k-1)).map (· + 1)++((List.range (10-k+1)).map (· + k)):=by decide +kernel
    exact this k (by omega) h0
  have n:((List.range (k-1)).map (· + 1)).find? (fun j=>decide (fU j=w))=none:=by
    rw[List.find?_eq_none]
    intro j hj
    obtain⟨i,hi,rfl⟩:=List.mem_map.1 hj
    have:=List.mem_range.1 hi
    simpa using hb (i+1) (by omega) (by omega)
  unfold hO
  rw[e,List.find?_append,n,List.range_succ_eq_map]
  simp[hk]
theorem uj{w:Tx}(hb:∀j,1≤j→j<11→fU j≠w):hO w=0:=by
  unfold hO
  have n:((List.range 10).map (· + 1)).find? (fun j=>decide (fU j=w))=none:=by
    rw[List.find?_eq_none]
    intro j hj
    obtain⟨i,hi,rfl⟩:=List.mem_map.1 hj
    have:=List.mem_range.1 hi
    simpa using hb (i+1) (by omega) (by omega)
  rw[n];rfl
theorem qj{a b:Tx}(h:tb a=tb b):a=b:=by
  have:=congrArg (fun x:ByteArray=>x.data.toList) h
  simpa[tb]using this
theorem qL{a b:Tx}:decide (tb a=tb b)=decide (a=b):=by
  by_cases h:a=b
  · subst h;simp
  · rw[decide_eq_false h,decide_eq_false fun e=>h (qj e)]
theorem b7(a b:Tx):tb a++tb b=tb (a++b):=by
  apply ByteArray.ext
  simp[tb,ByteArray.data_append]
theorem pG(l:List Tx):(CD.sl 1 ((l.map tb).map fun n=>[CD.s n])).av false=.vs false 1 false (l.map fun w=>[.str (tb w)]):=by
  simp[CD.av,CD.pW,Function.comp_def]
theorem ve{ws:List Tx}{i:Nat}(h:ws.length≤i):cu ws i = -1:=by unfold cu;rw[List.getElem?_eq_none h]
end Go.AM
namespace Go.AM
def v7(x:aW):List CD:=[.i .i64 x.op,.i .i64 x.a,.i .i64 x.b,.i .i64 x.c,.i .i64 x.d,.s (tb x.name)]
def sX(m:bA):List CD:=[.s (tb m.name),.sl 6 (m.code.map v7)]
def uM(s:aC):List CD:=[.s (tb s.name),.sl 2 (s.methods.map sX)]
theorem C8(x:aW):v7 x=x.D.cd:=rfl
theorem Dd(m:bA):sX m=m.D.cd:=by simp[sX,bA.D,ah.cd,Function.comp_def,C8]
theorem CW(s:aC):uM s=s.D.cd:=by simp[uM,aC.D,ae.cd,Function.comp_def,Dd]
theorem xr(l:List aC):l.map uM=(l.map aC.D).map ae.cd:=by simp[Function.comp_def,CW]
def vz(H:AH)(v:AV)(l:List aC)(fp:List Nat):Prop:=bM H v (.sl 2 (l.map uM)) fp∧fp.Nodup
def l8(H:AH)(fp:List Nat)(H':AH)(v':AV)(l':List aC):Prop:=∃fp',vz H' v' l' fp'∧H.length≤H'.length∧(∀c,c<H.length→c∉fp→H'[c]? = H[c]?)∧∀c∈fp',c∈fp∨H.length≤c
theorem l8.trans{H:AH}{fp:List Nat}{H1:AH}{v1:AV}{l1:List aC}{fp1:List Nat}{H2:AH}{v2:AV}{l2:List aC}(h1:H.length≤H1.length)(f1:∀c,c<H.length→c∉fp→H1[c]? = H[c]?)(m1:∀c∈fp1,c∈fp∨H.length≤c)
    (u:l8 H1 fp1 H2 v2 l2):l8 H fp H2 v2 l2:=by
  obtain⟨fp2,a,h2,f2,m2⟩:=u
  refine⟨fp2,a,by omega,fun c hc hf=>?_,fun c hc=>?_⟩
  · rw[f2 c (by omega) (fun g=>by rcases m1 c g with q|q;exact hf q;omega),f1 c hc hf]
  · rcases m2 c hc with q|q
    · exact m1 c q
    · exact .inr (by omega)
theorem kG(s:St)(l:Tx)(h:7≤l.length):ig .str s (.str (tb l)) (.int .i64 7)=.val (.str (tb (l.take 7))) s∧cutFrom .str s (.str (tb l)) (.int .i64 7)=.val (.str (tb (l.drop 7))) s:=by
  have sz:(tb l).size=l.length:=by show l.toArray.size=_;simp
  have e1:(tb l).extract 0 7=tb (l.take 7):=by
    apply ByteArray.ext;simp[tb,ByteArray.data_extract,List.extract_eq_take_drop]
  have e2:(tb l).extract 7 (tb l).size=tb (l.drop 7):=by
    rw[sz];apply ByteArray.ext;simp[tb,ByteArray.data_extract,List.extract_eq_take_drop];rw[List.take_of_length_le (by simp)]
  have h7:7≤(tb l).size:=by omega
  constructor
  · simp[ig,fG,rQ,db,AR.cZ,h7,e1]
  · simp[cutFrom,fG,rQ,db,AR.cZ,h7,e2]
end Go.AM
namespace Go.AM
section
variable {P:Program} {Θ:gQ} {Γ:aZ}
theorem tE{rs:List Nat}{e e':List AV}{L:List (List AV)}{h h':AH}(hx:∀r∈rs,(∃i off,e.getD r .any=.lp i off)∨(∃c g off,e.getD r .any=.gp c g off∧h'[c]? = h[c]?)):ij rs ⟨e,L,h⟩ ⟨e',L,h'⟩:=by
  intro r hr n cs hc
  rcases hx r hr with⟨i,off,he⟩|⟨c,g,off,he,hh⟩
  · simp only[he]at hc ⊢
    simpa only[St.cells]using hc
  · simp only[he]at hc ⊢
    simp only[St.cells]at hc ⊢
    rw[show aS h' c=aS h c by unfold aS;rw[hh]];exact hc
end
end Go.AM
