/- StackRows: the program's and the reference's. -/
import Derived.Test.YtgeoehnbpkediaaGreatZBasI
import Derived.Laws.CopyOwn
import Derived.Test.YtgeoehnbpkediaaGreatZKer
import Derived.Test.YtgeoehnbpkediaaGreatZOrder
set_option maxHeartbeats 8000000
set_option maxRecDepth 100000
namespace Go.Proofs.YtgeoehnbpkediaaGreat
open Go.RowKit
open Lib (hid)
variable {S:Nat->Prop} {n:Nat} {w:World}
theorem Zi7 {m:Mat} (h:Zg m=true):bdM m<=576:=by
 obtain ⟨R,C,_,_,hR,hC,hl,_⟩:=ZF h
 have hRC:R*C<=24*24:=Nat.mul_le_mul hR hC
 unfold bdM;omega
theorem ZlD {α:Type} (L:List α) (off:Nat):splice L off []=L:=by simp[splice]
theorem ZoM {P:Program} {o:Oper} {a:Act} {K:Act->World->Prop} {Q:Exit->Act->World->Prop} {d s:Operand} {t e:TypeId} {z:Value} {bytes:Nat} (ho:o.op= .call {callee:= .builtin .copy,args:= #[d,s],argTypes:= #[t,t]})
  (hT:SlT P t e z 1 bytes) {dp sp oa:Option Addr} {dCap sLen sCap cap off:Nat} {cs news:List Value} (hd:a.eval d= .slice dp sLen dCap) (hs:a.eval s= .slice sp sLen sCap) (hown:Own w e 1 oa n cap cs)
  (hsrc:Row w S 1 sp sLen sCap news) (h1: ∀ u∈news,u.oneCell'=true) (hfit:off+sLen<=n) (hdp:0<sLen-> ∃ g,oa=some ⟨g,0,none⟩/\dp=some ⟨g,off,none⟩)
  (h: ∀ w' v,Own w' e 1 oa n cap (splice cs off news)->Keep (fun q=>blk oa≠some q) w w'->K (a.put o.dst v) w'):o.wp P a w K Q:=by
 obtain ⟨ht,⟨i,hi,hz,hsz,hby⟩,hzs⟩:=hT
 have hsz':(P.info? e).map (·.size)=some 1:=by rw[hi];simp[hsz]
 have hln:news.length=sLen:=by have:=hsrc.len;omega
 by_cases h0:sLen=0
 ·subst h0
  obtain rfl:news=[]:=List.eq_nil_of_length_eq_zero hln
  have hr:=run_copy_none (P:=P) w t t o.type e dp sp 0 dCap 0 sCap ht hsz' rfl
  unfold Oper.wp execOp
  simp only[ho,resolve,invoke,builtin,Sem.run_bind,Sem.run_pure,Result.andThen_ok,List.map_toArray,List.map_cons,List.map_nil,hs,hd,hr]
  exact h w _ (by rw[ZlD];exact hown) (Keep.refl _ _)
 ·obtain ⟨g,rfl,rfl⟩:=hdp (by omega)
  obtain ⟨-,cur,hg,hsize,htake⟩:=hown.block _ rfl
  obtain ⟨b,so,rfl, -,hc⟩:=hsrc.addr (by intro e2;rw[e2] at hln;simp at hln;omega)
  have hlc:=hown.len
  have hle:=hown.le
  rw[Nat.mul_one] at hsize htake hlc
  have hr:=run_copy_row (P:=P) w t t o.type e g off sLen dCap ⟨b,so,none⟩ sLen sCap cur e news ht hsz' hg (by simp[hln]) (fun j v hj=>by rw[Addr.add_lit];exact hc j v hj) (by omega) h1
  unfold Oper.wp execOp
  simp only[ho,resolve,invoke,builtin,Sem.run_bind,Sem.run_pure,Result.andThen_ok,List.map_toArray,List.map_cons,List.map_nil,hs,hd,hr]
  refine h _ _ ⟨?_,hown.le,hown.max,hown.nil,fun p hp=> ?_⟩ (Zhb hg _)
  ·rw[length_splice _ _ _ (by omega),hlc,Nat.mul_one]
  ·obtain rfl:=Option.some.inj hp
   refine ⟨rfl,_,setRow_heap w g cur _ e _ hg, ?_, ?_⟩
   ·simp only[List.size_toArray,List.length_append,List.length_take,List.length_drop,Array.length_toList];omega
   ·rw[Nat.mul_one, ←htake]
    unfold splice
    simp only[List.append_assoc]
    rw[List.take_take,Nat.min_eq_left (by omega),List.take_append,List.take_append]
    simp only[List.length_take,Array.length_toList]
    rw[List.take_of_length_le (l:=List.take off cur.toList) (by simp;omega),List.take_of_length_le (l:=news) (by omega)]
    congr 2
    rw[List.drop_take]
    congr 1
    omega
def ZbG (m:List Int) (K n:Nat) (t:Nat):List Int:=((List.range t).map fun i=>(Za5 m K i).take n).flatten
theorem Zi0 (m:List Int) (K n t:Nat):ZbG m K n (t+1)=ZbG m K n t++(Za5 m K t).take n:=by
 unfold ZbG;rw[List.range_succ,List.map_append,List.flatten_append];simp
theorem ZfV {m:List Int} {K R n:Nat} (hl:m.length=R*K) (hn:n<=K): ∀ {t:Nat},t<=R->(ZbG m K n t).length=t*n
 |0,_=>by simp[ZbG]
 |t+1,h=>by
  rw[Zi0,List.length_append,ZfV hl hn (by omega),List.length_take,ZdC hl (by omega),Nat.add_mul];omega
theorem Zhq {m:List Int} {K:Nat} (h:NumL m) (t:Nat):NumL (ZbG m K n t):=fun x hx=>by
 unfold ZbG at hx
 rw[List.mem_flatten] at hx
 obtain ⟨l,hl,hx⟩:=hx
 obtain ⟨i,_,rfl⟩:=List.mem_map.1 hl
 exact h x (List.mem_of_mem_drop (List.mem_of_mem_take (List.mem_of_mem_take hx)))
theorem ZoH (m:Mat):bdM (ZcU m)<=1024:=by
 cases hB:Zg m with
 |false=>
  rw[(Zd8 (by unfold Zbu;rw[hB];rfl)).2];simp[bdM]
 |true=>
  obtain ⟨R,C,hmr,hmc,hR,hC,hl,hnum⟩:=ZF hB
  have hRC:R*C<=24*24:=Nat.mul_le_mul hR hC
  unfold ZcU
  cases hh:Zbu m with
  |none=>simp[bdM]
  |some s=>
   have hs:Zbv m.cells R C=some s:=by
    unfold Zbu at hh
    rw[hB,if_pos rfl,hmr,hmc] at hh
    simpa using hh
   have:=(ZbQ hl hnum hs).1.la
   unfold bdM
   simp only[List.length_take]
   omega
theorem ZoZ (m:Mat):bdM (ZbX m)<=1024:=by
 unfold ZbX
 split
 ·exact ZoH _
 ·simp[bdM]
structure ZpV (m:Mat) (R N:Nat) (b:List Int):Prop where
 eq:ZbX m={rows:=(N:Int),cols:=(R:Int),cells:=b}
 rows:m.rows=(R:Int)
 hR:R<=24
 hN:N<=24
 len:b.length=N*R
 num:NumL b
def Zcm (a b:Mat):Bool:=decide (a.rows=b.rows)&&(decide (a.cols=b.cols)&&Zei a.cells b.cells)
theorem Zjd {T:Nat->Prop} {u v:Value} {A B:Mat} (hA:VM w S u A) (hB:VM w T v B) (hb:bdM A<=2097152):
  Calls Tryz.prog 12 #[u,v] w fun e w'=>e= .returned (.bool (Zcm A B))/\Grow w w':=by
 obtain ⟨aa,an,ac,rfl,hA,ia1,ia2⟩:=hA
 obtain ⟨ba,bn,bc,rfl,hB,ib1,ib2⟩:=hB
 obtain ⟨w3,hw3⟩: ∃ w3,w3=(w.alloc (.cells #[.int .i64 A.rows, .int .i64 A.cols, .slice aa an ac] 28)).alloc (.cells #[.int .i64 B.rows, .int .i64 B.cols, .slice ba bn bc] 28):=⟨_,rfl⟩
 have hG3:Grow w w3:=by rw[hw3];exact ((Grow.refl w).alloc _ _).alloc _ _
 have bA:Blk w3 w.heap.size #[.int .i64 A.rows, .int .i64 A.cols, .slice aa an ac] 28:=by rw[hw3];exact (Blk.new w _ _).alloc _
 have bB:Blk w3 (w.heap.size+1) #[.int .i64 B.rows, .int .i64 B.cols, .slice ba bn bc] 28:=by rw[hw3];exact Blk.newAt _ _ _ (by simp)
 obtain ⟨⟨x0,x1,x2⟩, -⟩:=bA.three
 obtain ⟨⟨y0,y1,y2⟩, -⟩:=bB.three
 have hltA:=bA.lt
 have hltB:=bB.lt
 have rA:=hA.grow hG3
 have rB:=hB.grow hG3
 have hla:=rA.len
 have hlb:=rB.len
 unfold bdM at hb
 have Hw3:=hid hw3
 rw[hw3] at x0 x1 x2 y0 y1 y2
 clear hw3
 by_cases h1:A.rows=B.rows
 ·have q1:(A.rows==B.rows)=true:=by simp[h1]
  by_cases h2:A.cols=B.cols
  ·have q2:(A.cols==B.cols)=true:=by simp[h2]
   have Hz:=hid (show Zcm A B=Zei A.cells B.cells by unfold Zcm;rw[decide_eq_true h1,decide_eq_true h2];rfl)
   clear h1 h2
   go_enter Tryz.func12,Tryz.ntmps12
   go_wp2_with fail
   rw[←Hw3.out]
   refine (ZnI aa ba an bn ac bc A.cells B.cells _ rA rB (by omega)).mono ?_
   rintro e w4 ⟨rfl,hQ⟩
   go_wp2
   go_ret
   exact ⟨by rw[Hz.out];rfl,hG3.trans hQ.grow⟩
  ·have q2:(A.cols==B.cols)=false:=by simp[h2]
   have Hz:=hid (show Zcm A B=false by unfold Zcm;rw[decide_eq_false h2];simp)
   clear h1 h2
   go_enter Tryz.func12,Tryz.ntmps12
   go_wp2
   rw[←Hw3.out]
   go_ret
   exact ⟨by rw[Hz.out];rfl,hG3⟩
 ·have q1:(A.rows==B.rows)=false:=by simp[h1]
  have Hz:=hid (show Zcm A B=false by unfold Zcm;rw[decide_eq_false h1];rfl)
  clear h1
  go_enter Tryz.func12,Tryz.ntmps12
  go_wp2
  rw[←Hw3.out]
  go_ret
  exact ⟨by rw[Hz.out];rfl,hG3⟩

end Go.Proofs.YtgeoehnbpkediaaGreat
