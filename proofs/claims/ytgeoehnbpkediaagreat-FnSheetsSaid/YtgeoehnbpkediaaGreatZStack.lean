/- StackRows: the program's and the reference's. -/
import Derived.Test.YtgeoehnbpkediaaGreatZBasI
import Derived.Laws.CopyOwn
import Derived.Test.YtgeoehnbpkediaaGreatZKer
set_option maxHeartbeats 8000000
set_option maxRecDepth 100000
namespace Go.Proofs.YtgeoehnbpkediaaGreat
open Go.RowKit
open Lib (hid)
variable {S T:Nat->Prop} {n:Nat} {w:World}
theorem Zjg {m:Mat} (h:Zg m=true):bdM m<=576:=by
 obtain ⟨R,C,_,_,hR,hC,hl,_⟩:=ZD h;have hRC:R*C<=24*24:=Nat.mul_le_mul hR hC;unfold bdM;omega
theorem Zmo {α:Type} (L:List α) (off:Nat):splice L off []=L:=by simp[splice]
theorem Zpt {P:Program} {o:Oper} {a:Act} {K:Act->World->Prop} {Q:Exit->Act->World->Prop} {d s:Operand} {t e:TypeId} {z:Value} {bytes:Nat} (ho:o.op= .call {callee:= .builtin .copy,args:= #[d,s],argTypes:= #[t,t]})
  (hT:SlT P t e z 1 bytes) {dp sp oa:Option Addr} {dCap sLen sCap cap off:Nat} {cs news:List Value} (hd:a.eval d= .slice dp sLen dCap) (hs:a.eval s= .slice sp sLen sCap) (hown:Own w e 1 oa n cap cs)
  (hsrc:Row w S 1 sp sLen sCap news) (h1: ∀ u∈news,u.oneCell'=true) (hfit:off+sLen<=n) (hdp:0<sLen-> ∃ g,oa=some ⟨g,0,none⟩/\dp=some ⟨g,off,none⟩)
  (h: ∀ w' v,Own w' e 1 oa n cap (splice cs off news)->Keep (fun q=>blk oa≠some q) w w'->K (a.put o.dst v) w'):o.wp P a w K Q:=by
 obtain ⟨ht,⟨i,hi,hz,hsz,hby⟩,hzs⟩:=hT;have hsz':(P.info? e).map (·.size)=some 1:=by rw[hi];simp[hsz]
 have hln:news.length=sLen:=by have:=hsrc.len;omega
 by_cases h0:sLen=0
 ·subst h0;obtain rfl:news=[]:=List.eq_nil_of_length_eq_zero hln;have hr:=run_copy_none (P:=P) w t t o.type e dp sp 0 dCap 0 sCap ht hsz' rfl;unfold Oper.wp execOp;simp only[ho,resolve,invoke,builtin,Sem.run_bind,Sem.run_pure,Result.andThen_ok,List.map_toArray,List.map_cons,List.map_nil,hs,hd,hr];exact h w _ (by rw[Zmo];exact hown) (Keep.refl _ _)
 ·obtain ⟨g,rfl,rfl⟩:=hdp (by omega);obtain ⟨-,cur,hg,hsize,htake⟩:=hown.block _ rfl;obtain ⟨b,so,rfl, -,hc⟩:=hsrc.addr (by intro e2;rw[e2] at hln;simp at hln;omega);have hlc:=hown.len;have hle:=hown.le;rw[Nat.mul_one] at hsize htake hlc;have hr:=run_copy_row (P:=P) w t t o.type e g off sLen dCap ⟨b,so,none⟩ sLen sCap cur e news ht hsz' hg (by simp[hln]) (fun j v hj=>by rw[Addr.add_lit];exact hc j v hj) (by omega) h1;unfold Oper.wp execOp;simp only[ho,resolve,invoke,builtin,Sem.run_bind,Sem.run_pure,Result.andThen_ok,List.map_toArray,List.map_cons,List.map_nil,hs,hd,hr];refine h _ _ ⟨?_,hown.le,hown.max,hown.nil,fun p hp=> ?_⟩ (ZhI hg _)
  ·rw[length_splice _ _ _ (by omega),hlc,Nat.mul_one]
  ·obtain rfl:=Option.some.inj hp;refine ⟨rfl,_,setRow_heap w g cur _ e _ hg, ?_, ?_⟩
   ·simp only[List.size_toArray,List.length_append,List.length_take,List.length_drop,Array.length_toList];omega
   ·rw[Nat.mul_one, ←htake];unfold splice;simp only[List.append_assoc];rw[List.take_take,Nat.min_eq_left (by omega),List.take_append,List.take_append];simp only[List.length_take,Array.length_toList];rw[List.take_of_length_le (l:=List.take off cur.toList) (by simp;omega),List.take_of_length_le (l:=news) (by omega)];congr 2;rw[List.drop_take];congr 1;omega
def ZbS (m:List Int) (K n:Nat) (t:Nat):List Int:=((List.range t).map fun i=>(Zbe m K i).take n).flatten
theorem Zjq (m:List Int) (K n t:Nat):ZbS m K n (t+1)=ZbS m K n t++(Zbe m K t).take n:=by
 unfold ZbS;rw[List.range_succ,List.map_append,List.flatten_append];simp
theorem Zgv {m:List Int} {K R n:Nat} (hl:m.length=R*K) (hn:n<=K): ∀ {t:Nat},t<=R->(ZbS m K n t).length=t*n
 |0,_=>by simp[ZbS]
 |t+1,h=>by rw[Zjq,List.length_append,Zgv hl hn (by omega),List.length_take,Zd8 hl (by omega),Nat.add_mul];omega
theorem Zh3 {m:List Int} {K:Nat} (h:NumL m) (t:Nat):NumL (ZbS m K n t):=fun x hx=>by
 unfold ZbS at hx;rw[List.mem_flatten] at hx;obtain ⟨l,hl,hx⟩:=hx;obtain ⟨i,_,rfl⟩:=List.mem_map.1 hl;exact h x (List.mem_of_mem_drop (List.mem_of_mem_take (List.mem_of_mem_take hx)))
theorem ZpA (m:Mat):bdM (Zdg m)<=1024:=by
 cases hB:Zg m with
 |false=>rw[(ZeD (by unfold ZbC;rw[hB];rfl)).2];simp[bdM]
 |true=>
  obtain ⟨R,C,hmr,hmc,hR,hC,hl,hnum⟩:=ZD hB;have hRC:R*C<=24*24:=Nat.mul_le_mul hR hC;unfold Zdg;cases hh:ZbC m with
  |none=>simp[bdM]
  |some s=>have hs:ZbE m.cells R C=some s:=(by unfold ZbC at hh;rw[hB,if_pos rfl,hmr,hmc] at hh;simpa using hh);have:=(Zb2 hl hnum hs).1.la;unfold bdM;simp only[List.length_take];omega
theorem ZpR (m:Mat):bdM (Zcb m)<=1024:=by
 unfold Zcb;split
 ·exact ZpA _
 ·simp[bdM]
structure ZqM (m:Mat) (R N:Nat) (b:List Int):Prop where
 eq:Zcb m={rows:=(N:Int),cols:=(R:Int),cells:=b}
 rows:m.rows=(R:Int)
 hR:R<=24
 hN:N<=24
 len:b.length=N*R
 num:NumL b
theorem ZoW (a b:Option Addr) (n m cap cap':Nat) (xs ys:List Int) (w:World) (h:RdI w S a n cap xs) (h':RdI w T b m cap' ys) (hn:n<=2097152):
  Calls Tryz.prog 43 #[.slice a n cap, .slice b m cap'] w fun e w'=>e= .returned (.bool (Zgg xs ys))/\Qt w w':=by
 have hl:=h.len;have hl':=h'.len;by_cases hnm:n=m
 ·subst hnm;go_enter Tryz.func43,Tryz.ntmps43;go_wp2;go_loopw [13] (fun i wr=>Qt w wr/\ ∃ k:Nat,k<=n/\i= .int .i64 k/\xs.take k=ys.take k) (fun i _=>n-(intOf i).toNat);case atStart=>exact ⟨Qt.refl _,0,Nat.zero_le _,rfl,rfl⟩
  case round=>
   obtain ⟨hG,k,hk,rfl,he⟩:=hrel;have He:=hid he;clear he;by_cases hlt:k<n
   ·obtain ⟨b1,off1,x,rfl,hx,hxr,_,hbw,hc⟩:=(h.grow hG.grow).at hlt;obtain ⟨b2,off2,y,rfl,hy,hyr,_,hbw2,hc2⟩:=(h'.grow hG.grow).at hlt;have Hx:=hid hx;clear hx;have Hy:=hid hy;clear hy;by_cases hxy:x=y
    ·subst hxy;go_wp2
     go_quiet (fail)
     go_wp2;go_roundw;case rel=>exact ⟨hG.drewN _,k+1,by omega,by go_num,by rw[Z8 Hx.out,Z8 Hy.out,He.out]⟩
     case measure=>simp[intOf];omega
    ·have hxy':(x==y)=false:=(by simpa using hxy);go_wp2
     go_quiet (fail)
     go_wp2;go_ret;refine ⟨Zo (Eq.symm (decide_eq_false ?_)),hG.drewN _⟩;intro e;subst e;exact hxy (Option.some.inj (Hx.out.symm.trans Hy.out))
   ·go_wp2;go_ret;have:k=n:=(by omega);subst this;refine ⟨Zo (Eq.symm (decide_eq_true ?_)),hG⟩;have:=He.out
    rwa [ZaN hl,ZaN hl'] at this
 ·have hb:((n:Int)==(m:Int))=false:=by simp;omega
  go_enter Tryz.func43,Tryz.ntmps43;go_wp2;go_ret;refine ⟨Zo (Eq.symm (decide_eq_false ?_)),Qt.refl _⟩;intro e;subst e;omega
def Zp8 (l:List (List Int)) (k:Int):List (List Int):=l.filter fun s=>(s.length:Int)-1==k
def few (l:List (List Int)):Prop:= ∀ k:Nat,k<4->(Zp8 l k).length<=24
def Zb3 (a b:Mat):Bool:=decide (a.rows=b.rows)&&(decide (a.cols=b.cols)&&Zgg a.cells b.cells)
theorem ZgA {u v:Value} {A B:Mat} (hA:VM w S u A) (hB:VM w T v B) (hb:bdM A<=2097152):
  Calls Tryz.prog 12 #[u,v] w fun e w'=>e= .returned (.bool (Zb3 A B))/\Grow w w':=by
 obtain ⟨aa,an,ac,rfl,hA,ia1,ia2⟩:=hA;obtain ⟨ba,bn,bc,rfl,hB,ib1,ib2⟩:=hB;obtain ⟨w3,hw3,hG3,bA,bB, -⟩:=al2 w #[.int .i64 A.rows, .int .i64 A.cols, .slice aa an ac] 28 #[.int .i64 B.rows, .int .i64 B.cols, .slice ba bn bc] 28;obtain ⟨⟨x0,x1,x2⟩, -⟩:=bA.three;obtain ⟨⟨y0,y1,y2⟩, -⟩:=bB.three;have hltA:=bA.lt;have hltB:=bB.lt;have rA:=hA.grow hG3;have rB:=hB.grow hG3;have hla:=rA.len;have hlb:=rB.len;unfold bdM at hb;have Hw3:=hid hw3;rw[hw3] at x0 x1 x2 y0 y1 y2;clear hw3;by_cases h1:A.rows=B.rows
 ·have q1:(A.rows==B.rows)=true:=by simp[h1]
  by_cases h2:A.cols=B.cols
  ·have q2:(A.cols==B.cols)=true:=(by simp[h2]);have Hz:=hid (show Zb3 A B=Zgg A.cells B.cells by unfold Zb3;rw[decide_eq_true h1,decide_eq_true h2];rfl);clear h1 h2;go_enter Tryz.func12,Tryz.ntmps12;go_wp2_with fail;rw[←Hw3.out];refine (ZoW aa ba an bn ac bc A.cells B.cells _ rA rB (by omega)).mono ?_;rintro e w4 ⟨rfl,hQ⟩;go_wp2;go_ret;exact ⟨by rw[Hz.out];rfl,hG3.trans hQ.grow⟩
  ·have q2:(A.cols==B.cols)=false:=(by simp[h2]);have Hz:=hid (show Zb3 A B=false by unfold Zb3;rw[decide_eq_false h2];simp);clear h1 h2;go_enter Tryz.func12,Tryz.ntmps12;go_wp2;rw[←Hw3.out];go_ret;exact ⟨by rw[Hz.out];rfl,hG3⟩
 ·have q1:(A.rows==B.rows)=false:=by simp[h1]
  have Hz:=hid (show Zb3 A B=false by unfold Zb3;rw[decide_eq_false h1];rfl);clear h1;go_enter Tryz.func12,Tryz.ntmps12;go_wp2;rw[←Hw3.out];go_ret;exact ⟨by rw[Hz.out];rfl,hG3⟩

end Go.Proofs.YtgeoehnbpkediaaGreat
