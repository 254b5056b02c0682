/- Arguments of type Def and []Def, opened. -/
import Derived.Test.YtgeoehnbpkediaaGreatZDef
set_option maxHeartbeats 8000000
set_option maxRecDepth 100000
namespace Go.Proofs.YtgeoehnbpkediaaGreat
set_option maxRecDepth 100000
open Go.ChangeShapes Go.WideShapes Go.ChangeAt Go.RowKit
theorem ZrE {α:Type} {cs:List α} (h:cs.length=5): ∃ c0 c1 c2 c3 c4,cs=[c0,c1,c2,c3,c4]:=by
 match cs,h with
 |[c0,c1,c2,c3,c4],_=>exact ⟨c0,c1,c2,c3,c4,rfl⟩
section
variable {H:Type} {enc:TypeId×Value->H} {w:World}
theorem ZjZ:Tryz.prog.cellsOf 53=7:=by kernel_rfl
theorem Zhv:Tryz.prog.cellsOf 9=1:=by kernel_rfl
theorem Zp7 {P:Program} {t tm:TypeId} {f0 f1 f2 f3 f4:Field} {fuel:Nat} {cs:List Value} {x:DataW H×List MemPlace} (hu:P.underlying t=some (.struct #[f0,f1,f2,f3,f4])) (hc:P.cellsOf t=7)
  (t0:P.underlying f0.type=some .string) (t1:P.underlying f1.type=some (.int .i64)) (t2:P.underlying f2.type=some .string) (t3:P.underlying f3.type=some .string) (t4:f4.type=tm)
  (hm: ∀ {fuel:Nat} {cs:List Value} {x:DataW H×List MemPlace},DataW.trod enc P w 0 (fun _=>true) true fuel tm cs=some x-> ∃ r k a n c xs,cs=[.int .i64 r, .int .i64 k, .slice a n c]/\RdI w (fun _=>True) a n c xs/\I64 r/\I64 k)
  (o0:f0.offset=0) (o1:f1.offset=1) (o2:f2.offset=2) (o3:f3.offset=3) (o4:f4.offset=4) (c0:P.cellsOf f0.type=1) (c1:P.cellsOf f1.type=1) (c2:P.cellsOf f2.type=1) (c3:P.cellsOf f3.type=1) (c4:P.cellsOf f4.type=3)
  (h:DataW.trod enc P w 0 (fun _=>true) true fuel t cs=some x):
  ∃ d a n c,cs=Zab d (.slice a n c)/\RdI w (fun _=>True) a n c d.value.cells/\DOk d:=by
 obtain ⟨xs,n,_,rfl,hl,hlen,hf⟩:=DataW.trod_struct hu h;obtain ⟨q0,q1,q2,q3,q4,q5,q6,rfl⟩:=ZrL (hl.trans hc);obtain ⟨y0,y1,y2,y3,y4,rfl⟩:=ZrE hlen;have h0:=hf 0 f0 rfl;have h1:=hf 1 f1 rfl;have h2:=hf 2 f2 rfl;have h3:=hf 3 f3 rfl;have h4:=hf 4 f4 rfl;rw[o0,c0] at h0;rw[o1,c1] at h1;rw[o2,c2] at h2;rw[o3,c3] at h3;rw[o4,c4,t4] at h4;obtain ⟨s0,e0,_,w0⟩:=DataW.trod_string t0 h0;obtain ⟨r1,e1,_,w1⟩:=DataW.trod_int t1 h1;obtain ⟨s2,e2,_,w2⟩:=DataW.trod_string t2 h2;obtain ⟨s3,e3,_,w3⟩:=DataW.trod_string t3 h3;obtain ⟨r,k,a,n,c,xs,e4,hr,w4,w5⟩:=hm h4;simp at e0 e1 e2 e3 e4;obtain ⟨rfl,rfl,rfl⟩:=e4;subst e0;subst e1;subst e2;subst e3;exact ⟨⟨s0,r1,s2,s3,⟨r,k,xs⟩⟩,a,n,c,rfl,hr,w0,Zi7 w1,w2,w3,w4,w5⟩
theorem Zod {fuel:Nat} {cs:List Value} {x:DataW H×List MemPlace} (h:DataW.trod enc Tryz.prog w 0 (fun _=>true) true fuel 53 cs=some x):
  ∃ d a n c,cs=Zab d (.slice a n c)/\RdI w (fun _=>True) a n c d.value.cells/\DOk d:=
 Zp7 Tryz.underlying53 ZjZ Tryz.underlying9 Tryz.underlying3 Tryz.underlying9 Tryz.underlying9 rfl ZoE rfl rfl rfl rfl rfl Zhv Zfq Zhv Zhv Zhj h
theorem Zrx {r:Reach} {b0:Nat} {v:Value} {d:DataW H} {ps:List MemPlace} (hval:Value.okWide Tryz.prog w r b0 53 v) (h:DataW.Trod enc Tryz.prog w 0 (fun _=>true) true 53 v d ps):
  ∃ m,VD w (fun _=>True) v m:=by
 obtain ⟨cs,rfl,hsz⟩:=okWide_struct Tryz.underlying53 hval;obtain ⟨fuel,hf⟩:=h;obtain ⟨m,a,n,c,hcs,hr,ho⟩:=Zod hf;have:cs=(Zab m (.slice a n c)).toArray:=by simp only[Value.cells] at hcs;rw[←hcs]
 subst this;exact ⟨m,a,n,c,rfl,hr,ho⟩
theorem ZjO {a:Addr} {cs:List Value}: ∀ {k:Nat},w.cells? 0 a k=some cs->cs.length=k/\ ∀ j c,cs[j]? =some c->w.cell? (a.add j)=some c:=by
 intro k h;simp only[World.cells?,Nat.zero_le,if_true] at h;have hl:=mapM_some_length h;refine ⟨by simpa using hl,fun j c hj=> ?_⟩;have hjl:j<k:=by have:=(List.getElem?_eq_some_iff.1 hj).1;simp at hl;omega
 have:=mapM_some_get h j j (by simp[hjl]);rw[hj] at this;exact this
theorem Zjx (a:Addr) (i j:Nat):(a.add i).add j=a.add (i+j):=by
 cases a;rename_i b o s;by_cases hi:i=0<;>by_cases hj:j=0<;>cases s<;>simp[Addr.add,hi,hj,Nat.add_assoc]
theorem Zmn {α β:Type} [Inhabited α] [Inhabited β] {n:Nat} {p:Nat->α->β->Prop} (h: ∀ i,i<n-> ∃ a b,p i a b): ∃ f:Nat->α×β, ∀ i,i<n->p i (f i).1 (f i).2:=Zrb h
instance:Inhabited Dfn:=⟨⟨⟨#[]⟩,0,⟨#[]⟩,⟨#[]⟩,⟨0,0,[]⟩⟩⟩
theorem ZkN (f:Nat->Value×Dfn): ∀ k,(Zao ((List.range k).map fun i=>(f i).2) ((List.range k).map fun i=>(f i).1)).length=k*7:=fun k=>by rw[Zd5 (by simp)];simp
theorem Zqz {r:Reach} {b0:Nat} {v:Value} {d:DataW H} {ps:List MemPlace} (hval:Value.okWide Tryz.prog w r b0 42 v) (h:DataW.Trod enc Tryz.prog w 0 (fun _=>true) true 42 v d ps):
  ∃ a n cap l,v= .slice a n cap/\RdD w (fun _=>True) a n cap l:=by
 obtain ⟨fuel,hf⟩:=h;obtain ⟨a0,len,cap,rfl⟩:=okWide_slice Tryz.underlying42 hval;rcases DataW.trod_slice Tryz.underlying42 hf with ⟨hcs,_⟩|⟨a,len',cap',elems,rest,m,_,hcs,_,_,hl,hm,hlen,hel,_,_⟩
 ·simp[Value.cells] at hcs;obtain ⟨rfl,rfl,rfl⟩:=hcs;exact ⟨none,0,0,[],rfl,⟨[],rfl,⟨rfl,Nat.le_refl _,by simp[maxLen],fun _=>rfl,fun h=>(h rfl).elim⟩,RdCells.nilw⟩,rfl,fun _ h=>by cases h⟩
 ·simp[Value.cells] at hcs;obtain ⟨rfl,rfl,rfl⟩:=hcs;have each: ∀ i,i<len-> ∃ (s:Value) (d:Dfn),(∀ j c,(Zab d s)[j]? =some c->w.cell? (a.add (i*7+j))=some c)/\(∃ b cp,s= .slice b d.value.cells.length cp/\RdI w (fun _=>True) b d.value.cells.length cp d.value.cells)/\DOk d:=by intro i hi;have h1':=hel i hi;rw[List.getElem?_eq_getElem (by omega),ZjZ] at h1';obtain ⟨cs,h2,h3⟩:=Option.bind_eq_some_iff.1 h1';obtain ⟨-,h5⟩:=ZjO h2;obtain ⟨d,b,n,cp,rfl,hr,ho⟩:=Zod h3;have e1:=hr.len;subst e1;exact ⟨.slice b d.value.cells.length cp,d,fun j c hj=>by rw[←Zjx];exact h5 j c hj,⟨b,cp,rfl,hr⟩,ho⟩
  obtain ⟨f,hf'⟩:=Zmn each;refine ⟨some a,len,cap,(List.range len).map fun i=>(f i).2,rfl,⟨(List.range len).map fun i=>(f i).1,by simp,⟨ZkN f len,hl,hm,(fun h=>by cases h),fun hne=> ?_⟩,fun i xs hi=> ?_⟩,by simp,fun d hd=> ?_⟩
  ·have hlen:0<len:=by
    rcases Nat.eq_zero_or_pos len with h0|h0
    ·subst h0;simp[Zao] at hne
    ·exact h0
   have h0:=(hf' 0 hlen).1 0 _ rfl;have hs:a.spot=none:=(by simpa [Addr.add] using World.cell?_spot h0);obtain ⟨b,off,spot⟩:=a;simp only at hs;subst hs;refine ⟨b,off,rfl,trivial,fun j c hj=> ?_⟩;have hjl:j<len*7:=(by rw[←ZkN f len];exact (List.getElem?_eq_some_iff.1 hj).1);have e2: ∀ q,(⟨b,off,none⟩:Addr).add q=⟨b,off+q,none⟩:=fun q=>(by unfold Addr.add;split<;>simp_all);obtain ⟨k,q,hq,rfl⟩: ∃ k q,q<7/\j=k*7+q:=⟨j/7,j%7,Nat.mod_lt _ (by omega),by omega⟩;have hk:k<len:=(by omega);rw[ZdF (d:=(f k).2) (s:=(f k).1) (Zcp hk) (Zcp hk) hq] at hj;rw[←e2];exact (hf' k hk).1 q c hj
  ·unfold Za5 at hi;rw[List.map_map] at hi;obtain ⟨hil,rfl⟩:=Zj4 hi;obtain ⟨b,cp,h1,h2⟩:=(hf' i hil).2.1;exact ⟨b,cp,by rw[Zcp hil,h1];rfl,h2⟩
  ·obtain ⟨i,hi,rfl⟩:=List.mem_map.1 hd;exact (hf' i (by simpa using hi)).2.2
end
end Go.Proofs.YtgeoehnbpkediaaGreat
