/- The draws: the cursor over the code, a byte, a number below a bound. -/
import Derived.Test.YtgjefeiddfjjnaaGreatDoorZFmt
import Derived.Test.YtgjefeiddfjjnaaGreatDoorZDef
set_option maxHeartbeats 8000000
set_option maxRecDepth 100000
namespace Go.Proofs.YtgjefeiddfjjnaaGreatDoor
open Go.ChangeShapes Go.WideShapes Go.ChangeAt Go.RowKit
open IntKind renaming i64->Nj
open Nat renaming and_le_right->Pt,le_refl->JM,ne_of_lt->Pv
open Go.Proofs.Tryz
structure RdB (w:World) (S:Nat->Prop) (a:Option Addr) (n cap:Nat) (bs:List Int):Prop where
 row:Row w S 1 a n cap (bs.map (Value.int .u8))
 rng: ∀ x∈bs,0<=x/\x<=255
theorem RdB.keep {S T:Nat->Prop} {w w':World} {a:Option Addr} {n cap:Nat} {xs:List Int} (h:RdB w S a n cap xs) (hk:Keep T w w') (hST: ∀ b,b<w.heap.size->S b->T b):RdB w' S a n cap xs:=⟨h.row.keep hk hST,h.rng⟩
theorem RdB.grow {S:Nat->Prop} {w w':World} {a:Option Addr} {n cap:Nat} {xs:List Int} (h:RdB w S a n cap xs) (hk:Grow w w'):RdB w' S a n cap xs:=h.keep hk fun _ _ _=>trivial
theorem RdB.weak {S T:Nat->Prop} {w:World} {a:Option Addr} {n cap:Nat} {xs:List Int} (h:RdB w S a n cap xs) (hST: ∀ b,b<w.heap.size->S b->T b):RdB w T a n cap xs:=⟨h.row.weak hST,h.rng⟩
theorem RdB.len {S:Nat->Prop} {w:World} {a:Option Addr} {n cap:Nat} {xs:List Int} (h:RdB w S a n cap xs):xs.length=n:=by simpa using h.row.len
theorem RdB.at {S:Nat->Prop} {w:World} {a:Option Addr} {n cap:Nat} {xs:List Int} (h:RdB w S a n cap xs) {k:Nat} (hk:k<n):
  ∃ b off x,a=some ⟨b,off,none⟩/\(0<=x/\x<=255)/\S b/\b<w.heap.size/\w.cell? ⟨b,off+k,none⟩=some (.int .u8 x):=by
 have i:=h.len;have hlt:k<xs.length:=I
 obtain ⟨b,off,d,f,g⟩:=h.row.addr DD;have c:=g k (.int .u8 xs[k]) (by simp[List.getElem?_eq_getElem hlt]);exact ⟨b,off,xs[k],d,h.rng _ (List.getElem_mem hlt),f,World.block_lt_of_cell? w _ c,c⟩
section
variable {H:Type} {enc:TypeId×Value->H} {P:Program} {w:World}
theorem Zwi {r:Reach} {b0:Nat} {t e:TypeId} {v:Value} {d:DataW H} {ps:List MemPlace} (ht:P.underlying t=some (.slice e)) (he:P.underlying e=some (.int .u8)) (hc:P.cellsOf e=1)
  (hval:Value.okWide P w r b0 t v) (h:DataW.Trod enc P w 0 (fun _=>true) true t v d ps): ∃ a n cap xs,v= .slice a n cap/\RdB w (fun _=>True) a n cap xs:=by
 obtain ⟨s,C⟩:=h;obtain ⟨O,f,m,rfl⟩:=okWide_slice ht hval;rcases open_ints ht he hc C with ⟨g,_⟩|⟨a,D,cap,E,g,_,F,G,J,_,i,p⟩
 ·simp[Value.cells] at g;obtain ⟨rfl,rfl,rfl⟩:=g;exact ⟨none,0,0,[],rfl,⟨rfl,JM _,DQ,fun _=>rfl,fun h=>(h rfl).elim⟩,fun _ h=>Ω⟩
 ·simp[Value.cells] at g;obtain ⟨rfl,rfl,rfl⟩:=g;simp only[if_true] at J;refine ⟨some a,f,m,E.take f,rfl,⟨Ψ,F,G,(fun h=>Ω),fun q=> ?_⟩,fun n L=> ?_⟩
  ·have x:0<f:=by
    rcases Nat.eq_zero_or_pos f with o|o
    ·subst o;simp at q
    ·exact o
   have o:=i 0 I;have y:a.spot=none:=(by simpa [Addr.add] using World.cell?_spot o);obtain ⟨b,l,A⟩:=a;simp only at y;subst y;refine ⟨b,l,rfl,trivial,fun j c B=> ?_⟩;rw[List.getElem?_map] at B;obtain ⟨z,k,rfl⟩:=Option.map_eq_some_iff.1 B;rw[List.getElem?_take] at k;split at k
   ·rename_i M;have:=i j I;simp only[List.getD,k,Option.getD_some] at this;have N:(⟨b,l,none⟩:Addr).add j=⟨b,l+j,none⟩:=AV
    rwa [N] at this
   ·cases k
  ·have h:=p n (List.mem_of_mem_take L);have R:IntKind.u8.min=0:=rfl;have S:IntKind.u8.max=255:=rfl;simp only[Lit.wf,Bool.and_eq_true,decide_eq_true_eq] at h;omega
end
theorem ZpI (z:Int):0<=bits .and .i64 z 255/\bits .and .i64 z 255<=255:=by
 have a:bits .and .i64 z 255=Nj.wrap ((BitVec.ofInt 64 z&&& BitVec.ofInt 64 255).toNat:Int):=rfl;have b:(BitVec.ofInt 64 z&&& BitVec.ofInt 64 255).toNat<=255:=by rw[BitVec.toNat_and];exact Pt
 rw[a,IntWalk.i64_in _ I];omega
theorem ZuG (z:Int):0<=bits .and .i64 z 1073741823/\bits .and .i64 z 1073741823<=1073741823:=by
 have a:bits .and .i64 z 1073741823=Nj.wrap ((BitVec.ofInt 64 z&&& BitVec.ofInt 64 1073741823).toNat:Int):=rfl;have b:(BitVec.ofInt 64 z&&& BitVec.ofInt 64 1073741823).toNat<=1073741823:=by rw[BitVec.toNat_and];exact Pt
 rw[a,IntWalk.i64_in _ I];omega
def Cur (w:World) (g:Nat):Prop:= ∃ (ba:Option Addr) (bn bc:Nat) (bs:List Int) (i:Nat) (h:Int),Blk w g #[.slice ba bn bc, .int .i64 i, .int .i64 h] 77/\RdB w (fun q=>q<g) ba bn bc bs/\i<=bn/\bn<=1048577/\I64 h
theorem Cur.keep {w w':World} {g:Nat} {T:Nat->Prop} (h:Cur w g) (hk:Keep T w w') (hT: ∀ q,q<=g->T q):Cur w' g:=by
 obtain ⟨a,c,d,e,i,x,f,j,k⟩:=h;exact ⟨a,c,d,e,i,x,f.keep hk (hT g (JM _)),j.keep hk fun b _ l=>hT b (Nat.le_of_lt l),k⟩
theorem Cur.grow {w w':World} {g:Nat} (h:Cur w g) (hk:Grow w w'):Cur w' g:=h.keep hk fun _ _=>trivial
theorem Cur.lt {w:World} {g:Nat} (h:Cur w g):g<w.heap.size:=by
 obtain ⟨_,_,_,_,_,_,a,_⟩:=h;exact a.lt
theorem Zur (g:Nat) (w:World) (h:Cur w g):
  Calls prog 77 #[.pointer (some ⟨g,0,none⟩)] w fun e w'=> ∃ x:Nat,x<=255/\e= .returned (.int .i64 x)/\Cur w' g/\Keep (fun q=>q≠g) w w':=by
 obtain ⟨G,l,m,s,i,y,n,t,H,j,P⟩:=h;obtain ⟨⟨v,A,B⟩,C,D,E⟩:=n.three;go_enter func77,ntmps77;go_wp2;generalize F:wrap64 (wrap64 (y*6364136223846793005)+1442695040888963407)=z;have k:I64 z:=by rw[←F];unfold wrap64 I64;omega
 have b:Blk (w.setCell ⟨g,2,none⟩ (.int .i64 z)) g #[.slice G l m, .int .i64 i, .int .i64 z] 77:=n.set 2 _;have c:Keep (fun q=>q≠g) w (w.setCell ⟨g,2,none⟩ (.int .i64 z)):=kS;have d:=t.keep c fun q _ o=>Pv o;clear F v A B C D E t n;generalize w.setCell ⟨g,2,none⟩ (.int .i64 z)=f at *;obtain ⟨⟨v,A,B⟩,C,D,E⟩:=b.three;have R:=ZpI (bits BinOp.xor Nj (z/8589934592) (z/35184372088832))
 go_quiet (fail)
 go_wp2;generalize bits BinOp.and Nj (bits BinOp.xor Nj (z/8589934592) (z/35184372088832)) 255=x at *;by_cases r:i<l
 ·obtain ⟨S,T,u,rfl,V,_,J,L⟩:=d.at r;have O:=ZpI (x+u)
  go_quiet (fail)
  go_wp2
  go_quiet (fail)
  go_wp2;go_ret;have a: ∀ N,Grow f (f.drewN N):=fun N=>(Grow.refl f).drewN N;exact ⟨(bits BinOp.and Nj (x+u) 255).toNat,I,ZJ I,⟨_,l,m,s,i+1,z,(b.grow (a _)).set 1 _,(d.grow (a _)).keep ((Keep.refl (fun q=>q≠g) _).setCell (p:=⟨g,1,none⟩) (fun _ e=>e rfl) _) fun q _ o=>Pv o,I,j,k⟩,(c.trans ((a _).mono fun _ _ _=>trivial)).setCell (p:=⟨g,1,none⟩) (fun _ e=>e rfl) _⟩
 ·go_quiet (fail)
  go_wp2;go_ret;have a: ∀ N M,Grow f ((f.drewN N).drewN M):=fun N M=>((Grow.refl f).drewN N).drewN M;exact ⟨x.toNat,I,ZJ I,⟨_,l,m,s,i,z,b.grow (a _ _),d.grow (a _ _),H,j,k⟩,c.trans ((a _ _).mono fun _ _ _=>trivial)⟩
theorem Za9 (g n:Nat) (w:World) (h:Cur w g) (hn:n<=256):
  Calls prog 42 #[.pointer (some ⟨g,0,none⟩), .int .i64 n] w fun e w'=> ∃ x:Nat,(x<n\/x=0)/\e= .returned (.int .i64 x)/\Cur w' g/\Keep (fun q=>q≠g) w w':=by
 go_enter func42,ntmps42;by_cases a:0<n
 ·go_wp2_with fail;refine (Zur g _ h).mono ?_;rintro e c ⟨x,d,rfl,b,hK⟩;go_wp2;go_ret;exact ⟨x%n, .inl (Nat.mod_lt _ a),ZJ Θ,b,hK⟩
 ·go_wp2;go_ret;exact ⟨0, .inr rfl,rfl,h,Keep.refl _ _⟩
theorem Ze0 (g n:Nat) (w:World) (h:Cur w g) (hn:n<=256):
  Calls prog 44 #[.pointer (some ⟨g,0,none⟩), .int .i64 n] w fun e w'=> ∃ b:Bool,e= .returned (.bool b)/\Cur w' g/\Keep (fun q=>q≠g) w w':=by
 go_enter func44,ntmps44;go_wp2_with fail;refine (Za9 g n _ h hn).mono ?_;rintro e c ⟨x,d,rfl,a,hK⟩;go_wp2;all_goals (go_ret;exact ⟨_,rfl,a,hK⟩)
theorem Zu8 {S:Nat->Prop} (a:Option Addr) (n cap:Nat) (bs:List Int) (w:World) (h:RdB w S a n cap bs) (hn:n<=1048577):
  Calls prog 17 #[.slice a n cap] w fun e w'=> ∃ g,w.heap.size<=g/\e= .returned (.pointer (some ⟨g,0,none⟩))/\Cur w' g/\Grow w w':=by
 go_enter func17,ntmps17;go_wp2;go_loopw [3,4] (fun u i wr=>wr=w/\ ∃ (k:Nat) (x:Int),k<=n/\i= .int .i64 k/\u= .int .i64 x/\ -1073741824<=x/\x<=1073741824) (fun _ i _=>n-(intOf i).toNat);case atStart=>exact ⟨rfl,0,_,Nat.zero_le _,rfl,rfl,I,I⟩
 case round=>
  obtain ⟨b,k,x,o,rfl,rfl,d,f⟩:=hrel;subst b;by_cases c:k<n
  ·by_cases p:k<4000
   ·obtain ⟨r,s,u,rfl,t,_,j,l⟩:=h.at c;have m:=ZuG (x*131+u+7);go_wp2;go_roundw;case rel=>exact ⟨trivial,k+1,_,I,Δ,rfl,I,I⟩
    case measure=>exact FN
   ·go_wp2;exact Hw
  ·go_wp2;exact Hw
end Go.Proofs.YtgjefeiddfjjnaaGreatDoor

namespace Go.Proofs.YtgjefeiddfjjnaaGreatDoor
open Go.RowKit
open Grow renaming refl->JH
open Nat renaming le_of_lt->KF,le_refl->JM,lt_irrefl->NZ
open Go.Proofs.Tryz renaming prog->JG
open Go.Proofs.Tryz
variable {S:Nat->Prop} {cs:Array Value} {g n:Nat} {t:TypeId} {w:World}
theorem Zkj (g:Nat) (a:Option Addr) (n cap:Nat) (xs:List ByteArray) (w:World) (h:Cur w g) (hr:RdS w S a n cap xs) (hS: ∀ q,S q->q≠g) (hn:0<n) (hn2:n<=256):
  Calls JG 79 #[.pointer (some ⟨g,0,none⟩), .slice a n cap] w fun e w'=> ∃ x,x∈xs/\e= .returned (.string x)/\Cur w' g/\Keep (fun q=>q≠g) w w':=by
 go_enter func79,ntmps79;go_wp2_with fail;refine (Za9 g n _ h hn2).mono ?_;rintro e m ⟨k,o,rfl,d,hK⟩;have c:=hr.keep hK (fun q _ f=>hS q f);obtain ⟨b,i,x,rfl,j,_,l,p⟩:=c.at (k:=k) I;go_wp2;go_ret;exact ⟨x,List.mem_of_getElem? j,rfl,d,hK⟩
theorem RdS.lit {xs:List ByteArray} (h:Blk w g cs t) (hc:cs.toList=strs xs) (hn:n=xs.length) (hm:xs.length<=100) (hS:S g):RdS w S (some ⟨g,0,none⟩) n n xs:=
 ⟨⟨by simp[hn],JM _,Γ,(fun h=>Ω),fun _=>⟨g,0,rfl,hS,fun j c hj=>EB⟩⟩,hn.symm⟩
theorem Zft (g:Nat) (w:World) (h:Cur w g):
  Calls JG 78 #[.pointer (some ⟨g,0,none⟩)] w fun e w'=> ∃ s:ByteArray,(s.size<=1/\(10:UInt8)∉s.data.toList)/\e= .returned (.string s)/\Cur w' g/\Keep (fun q=>q≠g) w w':=by
 have c:=h.lt;go_enter func78,ntmps78;go_wp2_with fail;have d:RdS (w.alloc (.cells #[.string ⟨#[65]⟩, .string ⟨#[66]⟩, .string ⟨#[67]⟩, .string ⟨#[68]⟩, .string ⟨#[69]⟩] 9)) (fun q=>q=w.heap.size) (some ⟨w.heap.size,0,none⟩) 5 5 [⟨#[65]⟩,⟨#[66]⟩,⟨#[67]⟩,⟨#[68]⟩,⟨#[69]⟩]:=RdS.lit (Blk.new _ _ _) rfl rfl Θ rfl;have a:=(JH w).alloc #[.string ⟨#[65]⟩, .string ⟨#[66]⟩, .string ⟨#[67]⟩, .string ⟨#[68]⟩, .string ⟨#[69]⟩] 9;refine (Zkj g _ _ _ _ _ (h.grow a) d (fun q i=>I) I I).mono ?_;rintro e j ⟨x,b,rfl,f,hK⟩;go_wp2;go_ret;exact ⟨x,by simp at b;rcases b with rfl|rfl|rfl|rfl|rfl<;>decide,rfl,f,a.any.trans hK⟩
theorem Zoq (g r:Nat) (w:World) (h:Cur w g) (hr:1<=r/\r<=2):
  Calls JG 135 #[.pointer (some ⟨g,0,none⟩), .int .i64 r, .int .i64 2, .int .i64 3] w fun e w'=> ∃ (a:Option Addr) (xs:List Int),e= .returned (.agg #[.int .i64 r, .int .i64 2, .slice a (r*2) (r*2)])/\
   Own w' 3 1 a (r*2) (r*2) (ints xs)/\(∀ x∈xs,I64 x)/\(∀ q,blk a=some q->w.heap.size<=q)/\Cur w' g/\Keep (fun q=>q≠g) w w':=by
 have ag:=h.lt;have D:=(JH w).alloc #[.int .i64 0, .int .i64 0, .slice none 0 0] 37;have Z:=Blk.new w #[.int .i64 0, .int .i64 0, .slice none 0 0] 37;have aa:w.heap.size<=w.heap.size:=JM _;go_enter func135,ntmps135;go_wp2_with fail;refine (Zg5 r 2 _ I I).mono ?_;rintro e A ⟨a,rfl,f,E,m⟩;have F:=m.size;have B:=(D.trans m).alloc #[.int .i64 r, .int .i64 2, .slice a (r*2) (r*2)] 37;have bM:=Blk.newAt A #[.int .i64 r, .int .i64 2, .slice a (r*2) (r*2)] 37 rfl;have n:=(Z.grow m).alloc (.cells #[.int .i64 r, .int .i64 2, .slice a (r*2) (r*2)] 37);have b:=f.grow ((JH A).alloc #[.int .i64 r, .int .i64 2, .slice a (r*2) (r*2)] 37);have o:=h.grow B;obtain ⟨p,hp⟩: ∃ p,a=some ⟨p,0,none⟩:=by
  cases a with
  |none=>have:=f.nil rfl;have:=f.le;omega
  |some p=>exact ⟨p.block,by rw[←(f.block p rfl).1]⟩
 subst hp;have v:=E p rfl;have G:=f.lt (g:=p) rfl;simp at v F;have O:w.heap.size+1<=p/\p<A.heap.size:=I
 have ah:w.heap.size+1<A.heap.size:=I
 clear f E m D Z F G v h;go_wp2;go_loopw [10] (fun P wr=>Keep (fun q=>q≠g) w wr/\Cur wr g/\Blk wr w.heap.size #[.int .i64 0, .int .i64 0, .slice none 0 0] 37/\Blk wr A.heap.size #[.int .i64 r, .int .i64 2, .slice (some ⟨p,0,none⟩) (r*2) (r*2)] 37/\ ∃ (k:Nat) (xs:List Int),k<=r*2/\P= .int .i64 k/\Own wr 3 1 (some ⟨p,0,none⟩) (r*2) (r*2) (ints xs)/\(∀ x∈xs,I64 x)) (fun P _=>r*2-(intOf P).toNat);case atStart=>exact ⟨B.any,o,n,bM,0,List.replicate (r*2) 0,Nat.zero_le _,rfl,b,fun x M=>by obtain rfl:=List.eq_of_mem_replicate M;unfold I64;omega⟩
 case round=>
  clear B o n bM b;obtain ⟨H,N,i,s,k,xs,hk,rfl,f,M⟩:=hrel;obtain ⟨⟨m0,m1,R⟩, -⟩:=s.three;have ab:=s.lt;by_cases ad:k<r*2
  ·have ai:xs.length=r*2:=(by simpa using f.len);have C:g≠A.heap.size:=I;have aj:=N;go_wp2;have ae:p≠g:=I;have l:A.heap.size≠p:=I;refine Zcr (fun q=>q≠g/\q≠p) [([0,1,2,3,4,5,6,8],some 7),([9,10],some 11)] ?_;show wpQuiet _ _ _ _ [_,_,_,_,_,_,_,_] _;(repeat (first |(go_big_quiet_want;refine Zw Zhn rfl rfl (fun w' S=>S.cell ⟨C.symm,l⟩ R) ?_;go_big_quiet_on;simp only[putP])|go_big_quiet_step (exact fun _=>rfl)));refine wpQuiet_nil ?_;refine Zu rfl (fun K hK=> ?_);go_wp2_with fail;refine (Za9 g 7 _ (N.grow (JH _).drew) I).mono ?_;rintro e T ⟨y,hy,rfl,o,J⟩;have d:Keep (fun q=>q≠g) wr T:=((JH wr).drew.any).trans J;have b:=f.keep d (fun q hq _ e=>ψ);have n:=i.keep d I;have V:=s.keep d C.symm;obtain ⟨x,W⟩: ∃ x,xs[k]? =some x:=⟨_,List.getElem?_eq_getElem I⟩;have X:=b.cell (j:=k) (c:= .int .i64 x) (by unfold ints;rw[List.getElem?_map,W];rfl);have Y:=b.free k;simp only at X Y;clear N J i s f m0 m1 R;go_wp2_with fail;refine hK _ _ ((d.mono fun q _ h=>h.1)) ?_;clear hK K;show wpQuiet _ _ _ _ [_,_] _;(try (conv=>arg 6;simp only[putP]));(repeat (first |(go_big_quiet_want;refine Zw Zhn rfl rfl (fun w' S=>S.cell ⟨C.symm,l⟩ R) ?_;go_big_quiet_on;simp only[putP])|go_big_quiet_step (exact fun _=>rfl)));refine wpQuiet_nil ?_;refine Zu rfl (fun K hK=> ?_);go_wp2_with fail;have t:Keep (fun q=>q≠p) T (T.setCell ⟨p,k,none⟩ (.int .i64 ((y:Int)-3))):=kS;refine hK _ _ (((d.mono fun q _ h=>h.1).trans (t.mono fun q _ h=>h.2))) ?_;clear hK K;refine Ze ?_;go_wp2;go_roundw;case rel=>exact ⟨(H.trans d).setCell (fun e=>absurd O.1 Bw) _,o.keep t (fun q hq e=>I),n.keep t I,V.keep t l,k+1,xs.set k ((y:Int)-3),I,Δ,by have:=b.set k (.int .i64 ((y:Int)-3));simpa [ints,List.map_set] using this,fun z hz=>by rcases List.mem_or_eq_of_mem_set hz with h|rfl;exact M z h;unfold I64;omega⟩
   case measure=>exact FN
  ·obtain rfl:k=r*2:=I;obtain ⟨⟨z0,z1,z2⟩,f0,f1,f2⟩:=i.three;have af:=i.lt;go_wp2;have L:Keep (fun q=>q≠w.heap.size) wr (((wr.setCell ⟨w.heap.size,0,none⟩ (.int .i64 r)).setCell ⟨w.heap.size,1,none⟩ (.int .i64 2)).setCell ⟨w.heap.size,2,none⟩ (.slice (some ⟨p,0,none⟩) (r*2) (r*2))):=
    kS
   exact Zx Zc rfl rfl rfl (((i.set 0 _).set 1 _).set 2 _) ⟨_,xs,rfl,f.keep L (fun q hq _ e=>ψ),M,(fun q hq=>ψ),N.keep L (fun q hq e=>I),((H.setCell (fun e=>absurd e (NZ _)) _).setCell (fun e=>absurd e (NZ _)) _).setCell (fun e=>absurd e (NZ _)) _⟩
theorem RdI.litF {xs:List Int} (h:Blk w g cs t) (hc:cs.toList=ints xs) (hn:n=xs.length) (hm:xs.length<=100) (hr: ∀ x∈xs,I64 x) (hS:S g):RdI w S (some ⟨g,0,none⟩) n n xs:=
 ⟨⟨by simp[hn],JM _,Γ,(fun h=>Ω),fun _=>⟨g,0,rfl,hS,fun j c hj=>EB⟩⟩,hr⟩
theorem ZgK (g:Nat) (a:Option Addr) (n cap:Nat) (xs:List Int) (w:World) (h:Cur w g) (hr:RdI w S a n cap xs) (hS: ∀ q,S q->q≠g) (hn:0<n) (hn2:n<=256):
  Calls JG 136 #[.pointer (some ⟨g,0,none⟩), .slice a n cap] w fun e w'=> ∃ x,x∈xs/\e= .returned (.int .i64 x)/\Cur w' g/\Keep (fun q=>q≠g) w w':=by
 go_enter func136,ntmps136;go_wp2_with fail;refine (Za9 g n _ h hn2).mono ?_;rintro e o ⟨k,p,rfl,d,hK⟩;have c:=hr.keep hK (fun q _ f=>hS q f);obtain ⟨b,i,x,rfl,j,l,_,m,r⟩:=c.at (k:=k) I;go_wp2;go_ret;exact ⟨x,List.mem_of_getElem? j,rfl,d,hK⟩
abbrev Zuz:Array Value:= #[.string ⟨#[]⟩, .int .i64 0, .string ⟨#[]⟩, .string ⟨#[]⟩, .int .i64 0, .int .i64 0, .slice none 0 0]
def Zq1 (w0 w:World) (gd:Nat):Prop:= ∃ (nm:ByteArray) (op:Int) (A B:ByteArray) (r c:Int) (va:Option Addr) (vn vc:Nat) (xs:List Int),Blk w gd #[.string nm, .int .i64 op, .string A, .string B, .int .i64 r, .int .i64 c, .slice va vn vc] 39/\Own w 3 1 va vn vc (ints xs)/\(∀ x∈xs,I64 x)/\(∀ q,blk va=some q->w0.heap.size<q/\q≠gd)/\nm.size<=1/\I64 op/\A.size<=1/\B.size<=1/\I64 r/\I64 c/\xs.length<=4
theorem Zg {a:World} (h:Keep S a w) {p:Addr} (hp:a.heap.size<=p.block) (u:Value):Keep S a (w.setCell p u):=h.setCell (fun e=>absurd e I) u
theorem ZtG (g:Nat) (w:World) (h:Cur w g):
  Calls JG 82 #[.pointer (some ⟨g,0,none⟩)] w fun e w'=> ∃ v d,e= .returned v/\OD w' (fun q=>w.heap.size<=q) v d/\bdD d<=10/\Cur w' g/\Keep (fun q=>q≠g) w w':=by
 have a4:=h.lt;have ab:=(JH w).alloc Zuz 39;have bZ:=Blk.new w Zuz 39;go_enter func82,ntmps82;go_wp2_with fail;refine (Zft g _ (h.grow ab)).mono ?_;rintro e w1 ⟨nm,⟨R, -⟩,rfl,ag,ah⟩;go_wp2_with fail;refine (Za9 g 10 _ ag I).mono ?_;rintro e S ⟨op,a5,rfl,T,ai⟩;have J:=ah.trans ai;have C:=ab.any.trans J;have L:=bZ.keep J I;have hltZ:=L.lt;have M:=C;have aa:w.heap.size<S.heap.size:=hltZ;clear J ah ai ag ab bZ;by_cases h0:op=0
 ·subst h0;obtain ⟨w4,V⟩:=eX (S.alloc (.cells #[.string nm, .int .i64 0, .string ⟨#[]⟩, .string ⟨#[]⟩, .int .i64 0, .int .i64 0, .slice none 0 0] 39));obtain ⟨gd,j⟩:=eX S.heap.size;have E:Blk w4 gd #[.string nm, .int .i64 0, .string ⟨#[]⟩, .string ⟨#[]⟩, .int .i64 0, .int .i64 0, .slice none 0 0] 39:=by rw[V,j];exact Blk.new _ _ _
  have t:Grow S w4:=by rw[V];exact (JH S).alloc _ _
  have N:=L.grow t;have O:=T.grow t;have D:=C.trans t.any;have hgd:w.heap.size<gd:=I
  have aj:=E.lt;go_wp2_with fail;rw[←V, ←j];clear V t j L T C M hltZ aa;refine (Za9 g 2 _ O I).mono ?_;rintro e W ⟨y,hy,rfl,l,f⟩;go_wp2_with fail;rw[show ((1:Int)+(y:Int))=((1+y:Nat):Int) by omega];refine (Zoq g (1+y) _ l I).mono ?_;rintro e w6 ⟨va,xs,rfl,hO6,ad,P,G,m⟩;have k:=f.trans m;have a:=E.keep k I;have H:=N.keep k I;have o:=D.trans k;have av:=f.size;have ae:xs.length<=4:=EJ
  clear E N O D l;obtain ⟨⟨d0,d1,d2,d3,d4,d5,d6⟩,df0⟩:=a.seven;have aw:=a.free 4;have ax:=a.free 5;have ay:=a.free 6;have ak:=a.lt;have hlo7: ∀ q,blk va=some q->gd<q:=fun q hq=>by have:=P q hq;omega
  have i:Keep (fun q=>q≠gd) w6 (((w6.setCell ⟨gd,4,none⟩ (.int .i64 ((1+y:Nat):Int))).setCell ⟨gd,5,none⟩ (.int .i64 2)).setCell ⟨gd,6,none⟩ (.slice va ((1+y)*2) ((1+y)*2))):=
   kS
  have bZ:=H.keep i I;have hC:=G.keep i (fun q hq e=>I);have hKt:=Zg (Zg (Zg o (p:=⟨gd,4,none⟩) (KF hgd) (.int .i64 ((1+y:Nat):Int))) (p:=⟨gd,5,none⟩) (KF hgd) (.int .i64 2)) (p:=⟨gd,6,none⟩) (KF hgd) (.slice va ((1+y)*2) ((1+y)*2));have HT:Zq1 w (((w6.setCell ⟨gd,4,none⟩ (.int .i64 ((1+y:Nat):Int))).setCell ⟨gd,5,none⟩ (.int .i64 2)).setCell ⟨gd,6,none⟩ (.slice va ((1+y)*2) ((1+y)*2))) gd:=
   ⟨_,_,_,_,_,_,_,_,_,xs,((a.set 4 _).set 5 _).set 6 _,hO6.keep i (fun q hq _ e=>Eb),ad,(fun q hq=>Eb),R,ι,Φ,Φ,ι,ι,ae⟩
  exact FD
 ·obtain ⟨w3,X⟩:=eX (S.alloc (.cells #[.string nm, .int .i64 op, .string ⟨#[]⟩, .string ⟨#[]⟩, .int .i64 0, .int .i64 0, .slice none 0 0] 39));obtain ⟨gd,j⟩:=eX S.heap.size;have al:Blk w3 gd #[.string nm, .int .i64 op, .string ⟨#[]⟩, .string ⟨#[]⟩, .int .i64 0, .int .i64 0, .slice none 0 0] 39:=by rw[X,j];exact Blk.new _ _ _
  have t:Grow S w3:=by rw[X];exact (JH S).alloc _ _
  have am:=L.grow t;have an:=T.grow t;have hKt3:=C.trans t.any;have hgd:w.heap.size<gd:=I
  go_wp2_with fail;rw[←X, ←j];clear X t j L T C M hltZ aa;refine (Ze0 g 3 _ an I).mono ?_;rintro e wu ⟨b,rfl,hCu,hKu⟩;have bDu:=al.keep hKu I;have bZu:=am.keep hKu I;have s:=hKt3.trans hKu;clear al am an hKt3 hKu;have a2:=bDu.lt;obtain ⟨⟨d0,d1,d2,d3,d4,d5,d6⟩,df0⟩:=bDu.seven;have df1:=bDu.free 1;cases b with
  |true=>
   have af:Keep (fun q=>q≠gd) wu (wu.setCell ⟨gd,1,none⟩ (.int .i64 0)):=kS;go_wp2_with fail;have E:=bDu.set 1 (.int .i64 0);have N:=bZu.keep af I;have O:=hCu.keep af (fun q hq e=>I);have D:=Zg s (p:=⟨gd,1,none⟩) (KF hgd) (.int .i64 0);generalize wu.setCell ⟨gd,1,none⟩ (.int .i64 0)=w4 at *;clear d0 d1 d2 d3 d4 d5 d6 df0 df1 af hCu bDu bZu s;have aj:=E.lt;refine (Za9 g 2 _ O I).mono ?_;rintro e W ⟨y,hy,rfl,l,f⟩;go_wp2_with fail;rw[show ((1:Int)+(y:Int))=((1+y:Nat):Int) by omega];refine (Zoq g (1+y) _ l I).mono ?_;rintro e w6 ⟨va,xs,rfl,hO6,ad,P,G,m⟩;have k:=f.trans m;have a:=E.keep k I;have H:=N.keep k I;have o:=D.trans k;have av:=f.size;have ae:xs.length<=4:=EJ;clear E N O D l;obtain ⟨⟨d0,d1,d2,d3,d4,d5,d6⟩,df0⟩:=a.seven;have aw:=a.free 4;have ax:=a.free 5;have ay:=a.free 6;have ak:=a.lt;have hlo7: ∀ q,blk va=some q->gd<q:=fun q hq=>(by have:=P q hq;omega);have i:Keep (fun q=>q≠gd) w6 (((w6.setCell ⟨gd,4,none⟩ (.int .i64 ((1+y:Nat):Int))).setCell ⟨gd,5,none⟩ (.int .i64 2)).setCell ⟨gd,6,none⟩ (.slice va ((1+y)*2) ((1+y)*2))):=
    kS
   have bZ:=H.keep i I;have hC:=G.keep i (fun q hq e=>I);have hKt:=Zg (Zg (Zg o (p:=⟨gd,4,none⟩) (KF hgd) (.int .i64 ((1+y:Nat):Int))) (p:=⟨gd,5,none⟩) (KF hgd) (.int .i64 2)) (p:=⟨gd,6,none⟩) (KF hgd) (.slice va ((1+y)*2) ((1+y)*2));have HT:Zq1 w (((w6.setCell ⟨gd,4,none⟩ (.int .i64 ((1+y:Nat):Int))).setCell ⟨gd,5,none⟩ (.int .i64 2)).setCell ⟨gd,6,none⟩ (.slice va ((1+y)*2) ((1+y)*2))) gd:=
    ⟨_,_,_,_,_,_,_,_,_,xs,((a.set 4 _).set 5 _).set 6 _,hO6.keep i (fun q hq _ e=>Eb),ad,(fun q hq=>Eb),R,ι,Φ,Φ,ι,ι,ae⟩
   exact FD
  |false=>
   by_cases h2:op<=2
   ·go_wp2_with fail;refine (Zft g _ hCu).mono ?_;rintro e W ⟨A,⟨hA, -⟩,rfl,l,f⟩;have n:=bDu.keep f I;have Y:=bZu.keep f I;have F:=s.trans f;clear d0 d1 d2 d3 d4 d5 d6 df0 df1 bDu bZu s hCu f;obtain ⟨⟨d0,d1,d2,d3,d4,d5,d6⟩,df0⟩:=n.seven;have ao:=n.free 2;have ap:=n.lt;have m:Keep (fun q=>q≠gd) W (W.setCell ⟨gd,2,none⟩ (.string A)):=kS;have a:=n.set 2 (.string A);have H:=Y.keep m I;have G:=l.keep m (fun q hq e=>I);have o:=Zg F (p:=⟨gd,2,none⟩) (KF hgd) (.string A);go_wp2_with fail;generalize W.setCell ⟨gd,2,none⟩ (.string A)=w6 at *;clear d0 d1 d2 d3 d4 d5 d6 df0 ao m n Y l F;refine (Zft g _ G).mono ?_;rintro e w7 ⟨B,⟨hB, -⟩,rfl,az,i⟩;have Z:=a.keep i I;have a0:=H.keep i I;have aq:=o.trans i;clear a H o G i;obtain ⟨⟨d0,d1,d2,d3,d4,d5,d6⟩,df0⟩:=Z.seven;have a6:=Z.free 3;have a3:=Z.lt;have ar:Keep (fun q=>q≠gd) w7 (w7.setCell ⟨gd,3,none⟩ (.string B)):=kS;have a1:=Z.set 3 (.string B);have bZ:=a0.keep ar I;have hC:=az.keep ar (fun q hq e=>I);have hKt:=Zg aq (p:=⟨gd,3,none⟩) (KF hgd) (.string B);have HT:Zq1 w (w7.setCell ⟨gd,3,none⟩ (.string B)) gd:=
     ⟨_,_,_,_,_,_,none,0,0,[],a1,Own.nilw,(fun x hx=>by simp at hx),(fun q hq=>by cases hq),R,ι,hA,hB,ι,ι,Θ⟩
    exact FD
   ·go_wp2_with fail;refine (Zft g _ hCu).mono ?_;rintro e W ⟨A,⟨hA, -⟩,rfl,l,f⟩;have n:=bDu.keep f I;have Y:=bZu.keep f I;have F:=s.trans f;clear d0 d1 d2 d3 d4 d5 d6 df0 df1 bDu bZu s hCu f;obtain ⟨⟨d0,d1,d2,d3,d4,d5,d6⟩,df0⟩:=n.seven;have ao:=n.free 2;have ap:=n.lt;have m:Keep (fun q=>q≠gd) W (W.setCell ⟨gd,2,none⟩ (.string A)):=kS;have a:=n.set 2 (.string A);have bZ:=Y.keep m I;have hC:=l.keep m (fun q hq e=>I);have hKt:=Zg F (p:=⟨gd,2,none⟩) (KF hgd) (.string A);have HT:Zq1 w (W.setCell ⟨gd,2,none⟩ (.string A)) gd:=
     ⟨_,_,_,_,_,_,none,0,0,[],a,Own.nilw,(fun x hx=>by simp at hx),(fun q hq=>by cases hq),R,ι,hA,Φ,ι,ι,Θ⟩
    exact FD

end Go.Proofs.YtgjefeiddfjjnaaGreatDoor
