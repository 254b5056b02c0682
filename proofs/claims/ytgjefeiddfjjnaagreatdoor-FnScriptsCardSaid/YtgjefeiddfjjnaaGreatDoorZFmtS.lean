/- Matrices as text: the reference's FormatMatrix. -/
import Derived.Test.YtgjefeiddfjjnaaGreatDoorZFmt
import Derived.Shelf.Strconv.Itoa3
import Derived.Shelf.Strings.OnBuilder
import Derived.Ground.NamesProg
import Derived.Lib.AppendIntMem
import Derived.Lib.AtoiTie
import Derived.Lib.FieldsP
import Derived.Lib.IndexMore
import Derived.Lib.Strings
import Derived.Laws.RangeString
set_option maxHeartbeats 8000000
set_option maxRecDepth 100000
namespace Go.Proofs.YtgjefeiddfjjnaaGreatDoor
open Go.RowKit
open Lib (hid)
open Lib renaming itoa->JK
open Go.Proofs.Tryz
variable {C R:Nat}
def Zdi (R C:Nat):List UInt8:=JK R++(120::(JK C++[91]))
theorem ZgE {cells:List Int} (h:Zd ⟨R,C,cells⟩=true):ZaG ⟨R,C,cells⟩=(Zdi R C++ZE C 0 cells)++[93]:=by
 rw[ZhM h];simp[Zdi]
theorem ZmG (hR:R<=24) (hC:C<=24):(Zdi R C).length<=22:=by
 have a:=ZaK (n:=(R:Int)) I I;have b:=ZaK (n:=(C:Int)) I I;unfold Zdi;exact IA
theorem Zpc {k:Nat} {l:List Int} {x:Int} (h:l[k]? =some x):ZE C 0 (l.take (k+1))=ZE C 0 (l.take k)++((if 0<k/\k%C=0 then [59] else if 0<k then [32] else [])++JK x):=by
 have a:k<l.length:=(List.getElem?_eq_some_iff.1 h).1;rw[ZH h,ZfM];simp only[ZE,List.append_nil,Nat.zero_add];rw[show (l.take k).length=k by simp;omega]
theorem Zlf {S:Nat->Prop} {v:Value} {m:Mat} {w:World} (h:VM w S v m) (hb:bdM m<=2097152):
  Calls prog 127 #[v] w fun e w'=>e= .returned (.string (Za (ZaG m)))/\Grow w w':=by
 have y:=h;obtain ⟨a,n,c,rfl,h,hr,hc⟩:=h;have hl:=h.len;have hG1:=(Grow.refl w).alloc #[.int .i64 m.rows, .int .i64 m.cols, .slice a n c] 37;have bM:=Blk.new w #[.int .i64 m.rows, .int .i64 m.cols, .slice a n c] 37;obtain ⟨⟨G,J,L⟩, -⟩:=bM.three;cases hok:Zd m with
 |false=>have Hz:=hid (Zhp hok);go_enter func127,ntmps127;go_wp2_with fail;refine (ZL (y.grow hG1) hb).mono ?_;exact GU
 |true=>
  obtain ⟨R,C,hR,hC,hR24,hC24,f,g⟩:=Zl hok;obtain ⟨r,k,d⟩:=m;simp only at hR hC hl f g;subst hR;subst hC;have hn:n<=576:=C4
  have z:=hid (ZgE hok);have O:=ZmG hR24 hC24;have i:=hid (show Za (JK R)++⟨#[120]⟩++Za (JK C)++⟨#[91]⟩=Za (Zdi R C) by
   show Za _++Za [120]++Za _++Za [91]=_;rw[Zo,Zo,Zo];simp[Zdi])
  have ad:=ZaK (n:=(R:Int)) I I;have ae:=ZaK (n:=(C:Int)) I I;have af:=hid f;have j:=hid g;have ag:=hid hok;have HC:=hid (show 0<n->0<C by
   intro h0;rcases Nat.eq_zero_or_pos C with e|e
   ·rw[e,Nat.mul_zero] at f;omega
   ·exact e)
  clear f g;go_enter func127,ntmps127;go_wp2_with fail;refine (ZL (y.grow hG1) hb).mono ?_;rw[hok];rintro e w2 ⟨rfl,hG2⟩;have A:=bM.grow hG2;have B:=hG1.trans hG2;clear hok G J L;obtain ⟨⟨G,J,L⟩, -⟩:=A.three;go_wp2;refine ZaH [([0,1,4,5],some 2),([3],some 6),([7,8,9],none)] ?_;refine ZR ?_;intro K hK;refine (Zbq R _ ι).mono ?_;rintro e _ ⟨rfl,rfl⟩;go_wp2_with fail;refine hK _ _ ((Grow.refl _).drew) ?_;clear hK K;refine ZR ?_;intro K hK;refine (Zbq C _ ι).mono ?_;rintro e _ ⟨rfl,rfl⟩;go_wp2_with fail;refine hK _ _ ((Grow.refl _).drew) ?_;clear hK K;refine Zh ?_;refine Ze ?_;rw[i.out];have D:Grow w w2.drew:=B.drew;have E:=A.grow (Grow.refl w2).drew;generalize P:w2.drew=w3 at *;clear P G J L;obtain ⟨H,hH⟩:=eX (Zdi R C);rw[←hH] at O z ⊢;clear hH i;have h3:=h.grow D;go_wp2;go_loopw [3,4] (fun sv V wr=>Grow w wr/\ ∃ k:Nat,k<=n/\V= .int .i64 k/\sv= .string (Za (H++ZE C 0 (d.take k)))/\Blk wr w.heap.size #[.int .i64 R, .int .i64 C, .slice a n c] 37) (fun _ V _=>n-(intOf V).toNat);case atStart=>exact ⟨D,0,Nat.zero_le _,rfl,by simp[ZE],E⟩
  case round=>
   clear E h3;obtain ⟨o,k,hk,rfl,rfl,p⟩:=hrel;obtain ⟨⟨G,J,L⟩, -⟩:=p.three;have W:=h.grow o;obtain ⟨T,M⟩:=eX (H++ZE C 0 (d.take k));rw[←M];have ah:T.length<=6400:=(by have h1:=ZeN (C:=C) (l:=d.take k) (k:=0) fun x q=>j.out x (List.mem_of_mem_take q);have h2:(d.take k).length<=576:=Ψ;rw[M,List.length_append];omega);have N:=hid M;clear M;by_cases X:k<n
   ·obtain ⟨b,ai,x,rfl,q,s, -,aj,Y⟩:=W.at X;have ab:=ZaK (j.out x (List.mem_of_getElem? q)).1 (j.out x (List.mem_of_getElem? q)).2;have Hx:=hid q;have ak:=HC.out I;have t:=hid (Zpc (C:=C) q);clear q;by_cases Z:k=0
    ·subst Z;rw[Nat.add_zero] at Y;go_wp2_with fail;refine (Zbq x _ s).mono ?_;rintro e _ ⟨rfl,rfl⟩;go_wp2;go_roundw;case rel=>exact ⟨o,1,I,Δ,by rw[Zo,N.out,t.out];simp,p⟩
     case measure=>exact FN
    ·by_cases F:k%C=0
     ·have q1:(((k:Int)%(C:Int))==0)=true:=Ψ;go_wp2_with fail;refine (Zbq x _ s).mono ?_;rintro e _ ⟨rfl,rfl⟩;go_wp2;go_roundw;case rel=>exact ⟨o,k+1,I,Δ,by
       show Value.string (Za T++Za [59]++Za (JK x))=_;rw[Zo,Zo,N.out,t.out,if_pos ⟨I,F⟩];simp,p⟩
      case measure=>exact FN
     ·have q1:(((k:Int)%(C:Int))==0)=false:=Ψ;go_wp2_with fail;refine (Zbq x _ s).mono ?_;rintro e _ ⟨rfl,rfl⟩;go_wp2;go_roundw;case rel=>exact ⟨o,k+1,I,Δ,by
       show Value.string (Za T++Za [32]++Za (JK x))=_;rw[Zo,Zo,N.out,t.out,if_neg (fun e=>F e.2),if_pos I];simp,p⟩
      case measure=>exact FN
   ·have aa:k=n:=I;subst aa;go_wp2;go_ret;refine ⟨?_,o⟩;rw[z.out];show Ending.returned (Value.string (Za T++Za [93]))=_;rw[Zo,N.out,Z5 hl]

end Go.Proofs.YtgjefeiddfjjnaaGreatDoor

namespace Go.Proofs.YtgjefeiddfjjnaaGreatDoor
open Go.Shelf
open Go.Proofs.Tryz renaming prog->JG
def ZkS:Go.Shelf.Ren:=⟨fun |171=>67|243=>122|246=>183|283=>244|284=>245|285=>246|286=>247|129=>286|317=>288|318=>289|319=>290|320=>291|337=>306|338=>307|n=>n,fun |3=>3|9=>9|2=>2|4=>4|171=>221|0=>0|53=>222|37=>22|5=>5|173=>225|212=>254|51=>234|20=>20|213=>255|46=>147|232=>281|233=>282|n=>n,fun |17=>5|18=>6|19=>7|n=>n⟩
theorem Zo3:Go.Proofs.LaysM.n171 JG ZkS:=by repeat' first|kernel_rfl|exact nmE Ξ Ξ|intro _|constructor
open Go.RowKit Go.Sort Go.Lib in
theorem Zks (n:Int) (h0: -9223372036854775808<=n) (h1:n<=9223372036854775807) (w:World) (htab:Lib.TabIs JG w "internal/strconv.uint64pow10" .u64 Lib.pow10Tab):
  Calls JG 67 #[.int .i64 n] w fun e w'=>e= .returned (.string ⟨(Lib.itoa n).toArray⟩)/\ ∃ k os,w'=grow (w.drewN k) os:=Any.strconv_Itoa Zo3 n h0 h1 w htab
def Zhh:Go.Shelf.Ren:=⟨fun |156=>35|165=>68|166=>69|169=>70|240=>123|241=>124|276=>184|277=>185|n=>n,fun |31=>49|9=>9|3=>3|4=>4|0=>0|20=>20|72=>102|76=>106|70=>100|37=>22|75=>105|127=>145|164=>186|5=>5|80=>108|n=>n,fun |n=>n⟩
theorem Zk8:Go.Proofs.Lays.n156 JG Zhh:=by repeat' first|kernel_rfl|exact nmE Ξ Ξ|intro _|constructor
theorem ZeG:Builder.Extra JG Zhh:={
 sizeBuilder:=Ξ
 liesBuilder:=Ξ
 t5:=Tryz.underlying5
 a5:=Tryz.isAgg5
 z5:=Tryz.sizeOf5
 v5:=Tryz.zeroValue5
 infoByte:=Ξ
 cellsByte:=Ξ
 sizeByte:=Ξ
 neB5:=by decide}
open Go.RowKit in
theorem ZhX (a:Option Addr) (c:Nat) (sep:ByteArray) (w:World):
  Calls JG 35 #[.slice a 0 c, .string sep] w fun e w'=>e= .returned (.string ⟨#[]⟩)/\w'=w:=Any.strings_Join_none Zk8 ZeG a c sep w
open Go.RowKit in
theorem Zk1 (bk o c:Nat) (xs:List ByteArray) (sep:ByteArray) (w:World) (hcells: ∀ (j:Nat) x,xs[j]? =some x->w.cell? ⟨bk,o+j,none⟩=some (.string x)) (hbk:bk<w.heap.size) (hN:xs.length<=140737488355328) (hcap:xs.length<=c) (hlen:(Lib.join (xs.map (·.data.toList)) sep.data.toList).length<=140737488355328):
  Calls JG 35 #[.slice (some ⟨bk,o,none⟩) xs.length c, .string sep] w fun e w'=>e= .returned (.string ⟨(Lib.join (xs.map (·.data.toList)) sep.data.toList).toArray⟩)/\Below w.heap.size w w':=Any.strings_Join Zk8 ZeG bk o c xs sep w hcells hbk hN hcap hlen
end Go.Proofs.YtgjefeiddfjjnaaGreatDoor

namespace Go.Proofs.YtgjefeiddfjjnaaGreatDoor
open Go.RowKit
open Lib (hid)
open Bool renaming eq_false_iff->KO,or_eq_true->LW
open Lib renaming atoi->Nf,atoiAll->Mq,closeSpans->Ng,cut->JT,decDigits->KN,decFrom->LP,decNat->Pg,digitVal->NS,goFieldsP->K5,index->Mr,itoa->JK,join->Lr,spansFromP->MK,spansOfP->Pj
open List renaming append_assoc->Lg,cons_append->Kf,drop_append_of_le_length->Pi,drop_of_length_le->NR,drop_zero->Ph,length_cons->Kw,length_map->KK,length_nil->MJ,map_append->K0,map_cons->JV,map_map->Mc,map_nil->Kj,mem_append->Kg,mem_cons->JU,mem_cons_of_mem->L8,mem_map->Kc,mem_singleton->Kv,nil_append->Ka
open Go.Proofs.Tryz
variable {C R:Nat} {S:Nat->Prop} {a s:List UInt8} {b c:UInt8} {cells:List Int} {m:Mat} {n:Int} {w w':World}
theorem Below.toGrow (h:Below w.heap.size w w'):Grow w w':=⟨h.os,h.tape,h.output,h.size,fun _ a=>h.frozen a,fun k b _=>h.block k b⟩
theorem Zrj (w:World) (k:Nat) (os:Array Obj):Grow w (Go.Sort.grow (w.drewN k) os):=by
 refine Below.toGrow ⟨rfl,rfl,rfl,by show w.heap.size<=(w.heap++os).size;rw[Array.size_append];omega,fun j a=> ?_⟩;show (w.heap++os)[j]? =w.heap[j]?;rw[Array.getElem?_append_left a]
def Tab (w:World):Prop:=Lib.TabIs prog w "internal/strconv.uint64pow10" .u64 Lib.pow10Tab
theorem Tab.grow (h:Tab w) (hg:Grow w w'):Tab w':=(Lib.tabBelow_of_tabIs h) w' hg.below
theorem Zbp (n:Int) (w:World) (hn:I64 n) (ht:Tab w):Calls prog 34 #[.int .i64 n] w fun e w'=>e= .returned (.string (Za (JK n)))/\Grow w w':=by
 have c:=hid ht;clear ht;have a:=hid hn;clear hn;go_enter func34,ntmps34;go_wp2_with fail;refine (Zks n a.out.1 a.out.2 _ c.out).mono ?_;rintro e w' ⟨rfl,k,b,rfl⟩;have d:=Zrj w k b;generalize Go.Sort.grow (w.drewN k) b=f at *;go_wp2;go_ret;exact ⟨rfl,d⟩
theorem Zm6 (a:Option Addr) (n c:Nat) (l:List ByteArray) (sep:ByteArray) (w:World) (h:RdS w S a n c l) (hn:n<=140737488355328)
  (hlen:(Lr (l.map (·.data.toList)) sep.data.toList).length<=140737488355328):
  Calls prog 35 #[.slice a n c, .string sep] w fun e w'=>e= .returned (.string (Za (Lr (l.map (·.data.toList)) sep.data.toList)))/\Grow w w':=by
 have g:=h.len;cases l with
 |nil=>
  obtain rfl:n=0:=by simpa using g.symm
  exact (ZhX a c sep w).mono fun e w' ⟨i,k⟩=>⟨i,k▸Grow.refl _⟩
 |cons x r=>obtain ⟨b,d,rfl, -,o⟩:=h.row.addr (by simp[strs]);have f: ∀ (j:Nat) y,(x::r)[j]? =some y->w.cell? ⟨b,d+j,none⟩=some (.string y):=fun j y p=>o j _ (Zjr p);have m:=World.block_lt_of_cell? w _ (f 0 x rfl);have:=Zk1 b d c (x::r) sep w f m (by rw[g];exact hn) (by rw[g];exact h.row.le) hlen;rw[g] at this;exact this.mono fun e w' ⟨i,k⟩=>⟨i,Below.toGrow k⟩
theorem ZiJ (l:List (List UInt8)):(l.map Za).map (·.data.toList)=l:=by simp[Mc,Function.comp_def]
theorem Zif (a:Option Addr) (n c:Nat) (xs:List Int) (w:World) (h:RdI w S a n c xs) (hn:n<=1048576) (ht:Tab w):
  Calls prog 32 #[.slice a n c] w fun e w'=>e= .returned (.string (Za (Zca xs)))/\Grow w w':=by
 have H:=h.len;have M:=hid ht;clear ht;have J:=hid H;clear H;go_enter func32,ntmps32;go_wp2;go_loopw [3,5,9] (fun N _ s wr=>Grow w wr/\ ∃ (k:Nat) (j:Option Addr) (q:Nat),k<=n/\s= .int .i64 k/\N= .slice j k q/\Own wr 9 1 j k q (strs (((xs.take k).map JK).map Za))/\(∀ g,blk j=some g->w.heap.size<=g)) (fun _ _ s _=>n-(intOf s).toNat);case atStart=>exact ⟨(Grow.refl _).alloc _ _,0,_,0,Nat.zero_le _,rfl,rfl,Own.fresh Γ rfl,fun g hg=>κ⟩
 case round=>
  obtain ⟨l,k,j,q,hk,rfl,rfl,r,m⟩:=hrel;by_cases t:k<n
  ·obtain ⟨b,O,x,rfl,o,v, -,P,R⟩:=(h.grow l).at t;have T:=hid o;clear o;go_wp2_with fail;refine (Zbp x _ v (M.out.grow l)).mono ?_;rintro e V ⟨rfl,i⟩;have p:=(r.grow i).grow ((Grow.refl V).alloc #[.string (Za (JK x))] 9);go_wp2_with (at_builtin;refine ZD rfl (.tmp 13) (.tmp 16) _ rfl T_strs rfl p rfl (Row.built (S:=fun _=>True) 1 Γ rfl trivial) γ I Γ ?_;intro W X Y d);have Z:=l.size;have L:=i.size;have z:Grow w Y:=d.grow ((l.trans i).alloc _ _) m;have A:=d.lo (B:=w.heap.size) Ψ m;have C:=d.own;clear d r p;go_wp2;go_roundw;case rel=>exact ⟨z,k+1,W,X,I,Δ,rfl,by rw[ZH T.out,K0,K0];simpa [strs] using C,A⟩
   case measure=>exact FN
  ·have D:k=n:=I;subst D;have E:Lr ((((xs.take k).map JK).map Za).map (·.data.toList)) (Za [32]).data.toList=Zca xs:=(by rw[ZiJ,Z5 J.out];rfl);have f:(Zca xs).length<=140737488355328:=(by have:=join_len_le (xs:=xs.map JK) (sep:=[32]) (b:=21) fun y hy=>(by obtain ⟨x,o,rfl⟩:=Kc.1 hy;exact Lib.itoa_length_le x (h.rng x o).1 (h.rng x o).2);unfold Zca;simp only[KK,J.out,Kw,MJ] at this;omega);have F:=Zm6 j k q _ (Za [32]) wr (r.rdS (S:=fun _=>True) fun _ _=>trivial) I (by rw[E];exact f);rw[E] at F;have HJ:=hid F;clear E f F r;go_wp2_with fail;refine HJ.out.mono ?_;rintro e w4 ⟨rfl,G⟩;go_wp2;go_ret;exact ⟨rfl,l.trans G⟩
theorem Zho: ∀ (a b:List UInt8) (acc:Nat),LP acc (a++b)=(LP acc a).bind fun x=>LP x b
 |[],b,acc=>rfl
 |c::a,b,acc=>by
  simp only[Kf,LP];cases NS c with
  |none=>rfl
  |some d=>exact Zho a b _
theorem ZiK {d:Nat} (h:d<10):NS (UInt8.ofNat (48+d))=some d:=by
 have e:(UInt8.ofNat (48+d)).toNat=48+d:=by rw[UInt8.toNat_ofNat'];omega
 unfold NS;rw[e,if_pos I];congr 1;omega
theorem Zhd: ∀ (u:Nat),LP 0 (KN u)=some u:=by
 intro u;induction u using Nat.strongRecOn with
 |_ u a=>
  by_cases h:u<10
  ·rw[KN,dif_pos h];simp only[LP,ZiK h];simp
  ·rw[Zg8 h,Zho,a (u/10) I];simp only[Option.bind_some,LP,ZiK (Nat.mod_lt u Φ)];congr 1;omega
theorem Zjb (u:Nat):KN u≠[]:=fun e=>by
 have a:=Lib.decDigits_length u;have b:=Lib.nDigits_pos u;rw[e] at a;simp at a;omega
theorem ZfR {u:Nat} (h:b∈KN u):48<=b.toNat/\b.toNat<=57:=by
 obtain ⟨k,a⟩:=List.mem_iff_getElem?.1 h;obtain ⟨d,c⟩:=Lib.digit_of_decFrom _ _ _ (Zhd u) k b a;have:=Lib.digitVal_eq c;omega
theorem Zeh (h:b∈JK n):b.toNat=45\/(48<=b.toNat/\b.toNat<=57):=by
 unfold JK at h;split at h
 ·rcases JU.1 h with rfl|h
  ·exact .inl rfl
  ·exact .inr (ZfR h)
 ·exact .inr (ZfR h)
theorem Zim (u:Nat):Pg (KN u)=some u:=by
 unfold Pg;rw[if_neg (by rw[List.isEmpty_iff];exact Zjb u),Zhd]
theorem ZmD (n:Int):Nf (JK n)=some n:=by
 unfold JK;by_cases h:n<0
 ·rw[if_pos h];simp only[Nf,beq_self_eq_true,if_true,Zim,Option.map_some];congr 1;omega
 ·rw[if_neg h]
  match d:KN n.toNat,Zjb n.toNat with
  |b::r,_=>have hb:=ZfR (u:=n.toNat) (b:=b) (by rw[d];simp);have a:(b==45)=false:=Ff;have c:(b==43)=false:=Ff;simp only[Nf,a,c, ←d,Zim];simp;omega
theorem Zi8 (h:Zi n=true):Mq (JK n)= .ok n:=by
 have:=ZbI h;rw[Lib.atoiAll_short _ (by have:=ZaK this.1 this.2;omega),ZmD];rfl
def ZcY (s:List UInt8):Option Int:=match Nf s with
 |some n=>if Zi n=true/\JK n=s then some n else none
 |none=>none
theorem Zdo (h1:Zi n=true) (h2:JK n=s):ZcY s=some n:=by
 unfold ZcY;rw[←h2,ZmD];simp[h1]
theorem ZiW (h:ZcY s=some n):Zi n=true/\JK n=s:=by
 unfold ZcY at h;split at h
 ·split at h
  ·rename_i a;obtain rfl:=Option.some.inj h;exact a
  ·cases h
 ·cases h
theorem Zi0 (h: ∀ n,Zi n=true->JK n≠s):ZcY s=none:=by
 cases a:ZcY s with
 |none=>rfl
 |some n=>exact absurd (ZiW a).2 (h n (ZiW a).1)
def Za2 (s:List UInt8):Int:=(ZcY s).getD 0
def ZcF (s:List UInt8):Bool:=(ZcY s).isSome
theorem ZeI (h:ZcY s=some n):Za2 s=n/\ZcF s=true:=by unfold Za2 ZcF;rw[h];exact ⟨rfl,rfl⟩
theorem ZkC (h:ZcY s=none):Za2 s=0/\ZcF s=false:=by unfold Za2 ZcF;rw[h];exact ⟨rfl,rfl⟩
theorem ZfC (s:List UInt8):Zi (Za2 s)=true:=by
 unfold Za2;cases h:ZcY s with
 |none=>rfl
 |some n=>exact (ZiW h).1
theorem ZtW {v:Int} (h:Mq s= .ok v):ZcY s=if Zi v=true/\JK v=s then some v else none:=by
 split
 ·rename_i a;exact Zdo a.1 a.2
 ·rename_i a;refine Zi0 fun n b c=>a ?_;rw[←c,Zi8 b] at h;injection h with h;subst h;exact ⟨b,c⟩
theorem ZnV (h: ∀ v,Mq s≠ .ok v):ZcY s=none:=
 Zi0 fun n a b=>h n (by rw[←b,Zi8 a])
def Zwb (s:List UInt8):Bool:=s.head?==some 45
def Zp9 (s:List UInt8):List UInt8:=if Zwb s then s.drop 1 else s
def pmarks:List UInt8:=[120,91,93,59,32]
def pm (c:UInt8):Bool:=pmarks.contains c
theorem ZfW {p:UInt8->Bool} {r:List UInt8}: ∀ {a cur:List UInt8},(∀ x∈a,p x=false)->Zj p cur (a++r)=Zj p (cur++a) r
 |[],cur,_=>Θ
 |x::a,cur,h=>by have hx:=h x Θ;simp only[Kf,Zj,hx];rw[if_neg Θ,ZfW (a:=a) fun y hy=>h y CJ];simp
theorem Zhk: ∀ x∈JK n,pm x=false:=fun x a=>by
 have:=Zeh a;unfold pm pmarks;rw[KO];intro e;simp only[List.contains_eq_mem,JU,List.not_mem_nil,or_false,decide_eq_true_eq] at e;rcases e with rfl|rfl|rfl|rfl|rfl<;>simp at this
theorem ZiO {C:Nat}: ∀ {l:List Int} {k:Nat} {cur:List UInt8},0<k->Zj pm cur (ZE C k l++[93])=cur::(l.map JK++[[]])
 |[],k,cur,_=>rfl
 |x::l,k,cur,hk=>by
  have ih:=ZiO (C:=C) (l:=l) (k:=k+1) (cur:=JK x) I;by_cases hm:k%C=0
  ·simp only[ZE];rw[if_pos ⟨hk,hm⟩];simp only[Kf,Ka,Lg];rw[show Zj pm cur (59::(JK x++(ZE C (k+1) l++[93])))=cur::Zj pm [] (JK x++(ZE C (k+1) l++[93])) from rfl];rw[ZfW Zhk,Ka,ih];simp
  ·simp only[ZE];rw[if_neg (fun e=>hm e.2),if_pos hk];simp only[Kf,Ka,Lg];rw[show Zj pm cur (32::(JK x++(ZE C (k+1) l++[93])))=cur::Zj pm [] (JK x++(ZE C (k+1) l++[93])) from rfl];rw[ZfW Zhk,Ka,ih];simp
theorem ZmN (l:List Int):Zj pm [] (ZE C 0 l++[93])=(if l=[] then [[]] else l.map JK)++[[]]:=by
 cases l with
 |nil=>rfl
 |cons x l=>simp only[ZE];rw[if_neg (fun e=>I),if_neg I,if_neg Θ];simp only[Ka,Lg];rw[ZfW Zhk,Ka,ZiO I];simp
theorem Zqf (h:Zd ⟨R,C,cells⟩=true):Zj pm [] (ZaG ⟨R,C,cells⟩)=JK R::JK C::((if cells=[] then [[]] else cells.map JK)++[[]]):=by
 rw[ZgE h];unfold Zdi;simp only[Lg,Kf,Ka];rw[Zc0 DN Zhk,Ka,Zc0 DN Zhk,Ka,ZmN]
def Zki (s:List UInt8):List (List UInt8):=Zj pm [] s
def ZkW (s:List UInt8):Mat:=⟨Za2 ((Zki s).getD 0 []),Za2 ((Zki s).getD 1 []),(((Zki s).drop 2).dropLast).filterMap ZcY⟩
def Za4 (s:List UInt8):Option Mat:=if 4<=(Zki s).length/\s.length<=8000/\ZaG (ZkW s)=s then some (ZkW s) else none
theorem ZjI: ∀ {l:List Int},(∀ x∈l,Zi x=true)->(l.map JK).filterMap ZcY=l
 |[],_=>rfl
 |x::l,h=>by simp only[JV];rw[List.filterMap_cons_some (Zdo (h x Θ) rfl),ZjI fun y hy=>h y CJ]
theorem ZtF:ZcY []=none:=Zi0 fun n _ h=>Zhl n h
theorem Zry (h:Zd m=true):ZkW (ZaG m)=m/\4<=(Zki (ZaG m)).length:=by
 obtain ⟨R,C,e,f,g,i,c,b⟩:=Zl h;obtain ⟨r,k,a⟩:=m;simp only at e f c b;subst e;subst f;unfold ZkW Zki;rw[Zqf h];have j:=(ZeI (Zdo (s:=JK R) (n:=(R:Int)) (ZB.2 I) rfl)).1;have l:=(ZeI (Zdo (s:=JK C) (n:=(C:Int)) (ZB.2 I) rfl)).1;have o:((if a=[] then [[]] else a.map JK):List (List UInt8)).filterMap ZcY=a:=by
  split
  ·rename_i d;rw[d,List.filterMap_cons_none ZtF];rfl
  ·exact ZjI fun x p=>ZB.2 (b x p)
 have q:1<=((if a=[] then [[]] else a.map JK):List (List UInt8)).length:=by
  split
  ·simp
  ·rename_i d;have:=List.length_pos_iff.2 d;simp;omega
 refine ⟨?_,by simp only[Kw,List.length_append];simp only[MJ];omega⟩;simp only[List.getD_cons_zero,List.getD_cons_succ,j,l,List.drop_succ_cons,Ph,List.dropLast_concat,o]
theorem ZdC:Za4 s=some m↔Zd m=true/\ZaG m=s:=by
 constructor
 ·intro h;unfold Za4 at h;split at h
  ·rename_i a;obtain rfl:=Option.some.inj h;refine ⟨?_,a.2.2⟩;cases b:Zd (ZkW s) with
   |true=>rfl
   |false=>exfalso;have:=a.2.2;rw[Zhp b] at this;rw[←this] at a;simp[Zki,Zj] at a
  ·cases h
 ·rintro ⟨c,rfl⟩;obtain ⟨d,e⟩:=Zry c;unfold Za4;rw[d,if_pos ⟨e,by have:=Zdy m;omega,rfl⟩]
theorem ZrS (h: ∀ m,Zd m=true->ZaG m≠s):Za4 s=none:=by
 cases a:Za4 s with
 |none=>rfl
 |some m=>exact absurd (ZdC.1 a).2 (h m (ZdC.1 a).1)
def zeroP:Mat:=⟨0,0,[]⟩
def ZgC (s:List UInt8):Mat:=(Za4 s).getD zeroP
def ZgD (s:List UInt8):Bool:=(Za4 s).isSome
theorem ZnA (h:Za4 s=some m):ZgC s=m/\ZgD s=true:=by unfold ZgC ZgD;rw[h];exact ⟨rfl,rfl⟩
theorem Zfv (h:Za4 s=none):ZgC s=zeroP/\ZgD s=false:=by unfold ZgC ZgD;rw[h];exact ⟨rfl,rfl⟩
theorem Zr0 (s:List UInt8):Zd (ZgC s)=true:=by
 unfold ZgC;cases h:Za4 s with
 |none=>rfl
 |some m=>exact (ZdC.1 h).1
theorem ZhL {c:UInt8}: ∀ {a r:List UInt8},(∀ x∈a,x≠c)->Mr (a++c::r) [c]=(a.length:Int)
 |[],r,_=>by
  have e:[c].isPrefixOf (c::r)=true:=by simp[List.isPrefixOf]
  simp only[Ka,Mr,e,if_true];rfl
 |b::a,r,h=>by
  have hb:[c].isPrefixOf (b::(a++c::r))=false:=C6
  have ih:=ZhL (r:=r) fun x hx=>h x (L8 b hx);simp only[Kf,Mr,hb,ih];rw[if_neg Θ,if_neg Θ];simp
theorem ZhR {c:UInt8}: ∀ {a:List UInt8},(∀ x∈a,x≠c)->Mr a [c]= -1
 |[],_=>by simp[Mr]
 |b::a,h=>by
  have hb:[c].isPrefixOf (b::a)=false:=C6
  have ih:=ZhR fun x hx=>h x (L8 b hx);simp only[Mr,hb,ih];simp
theorem Znn {r:List UInt8} (h: ∀ x∈a,x≠c):JT (a++c::r) [c]=(a,r,true):=by
 unfold JT;rw[ZhL h,if_pos I];have:((a.length:Int)).toNat=a.length:=I
 rw[this];simp
theorem Zwd (h: ∀ x∈a,x≠c):JT a [c]=(a,[],false):=by
 unfold JT;rw[ZhR h,if_neg I]
theorem Zlh (s sep:List UInt8):(JT s sep).1.length<=s.length/\(JT s sep).2.1.length<=s.length:=by
 unfold JT;split
 ·simp;omega
 ·simp
def fld (q:UInt8->Bool) (cur:List UInt8):List UInt8->List (List UInt8)
 |[]=>if cur=[] then [] else [cur]
 |c::r=>if q c=true then (if cur=[] then fld q [] r else cur::fld q [] r) else fld q (cur++[c]) r
theorem ZnE {q:UInt8->Bool} {r:List UInt8}: ∀ {a cur:List UInt8},(∀ x∈a,q x=false)->fld q cur (a++r)=fld q (cur++a) r
 |[],cur,_=>Θ
 |x::a,cur,h=>by have hx:=h x Θ;simp only[Kf,fld,hx];rw[if_neg Θ,ZnE (a:=a) fun y hy=>h y CJ];simp
def fq (c:UInt8):Bool:=c==32||c==59
theorem ZpW: ∀ x∈JK n,fq x=false:=fun x a=>by
 have:=Zeh a;unfold fq;rw[KO];intro e;simp only[LW,beq_iff_eq] at e;rcases e with rfl|rfl<;>simp at this
theorem ZlQ {C:Nat}: ∀ {l:List Int} {k:Nat} {cur:List UInt8},0<k->cur≠[]->fld fq cur (ZE C k l)=cur::l.map JK
 |[],k,cur,_,hc=>by simp[ZE,fld,hc]
 |x::l,k,cur,hk,hc=>by
  have ih:=ZlQ (C:=C) (l:=l) (k:=k+1) (cur:=JK x) I (Zhl x);have e: ∀ c:UInt8,fq c=true->fld fq cur (c::(JK x++ZE C (k+1) l))=cur::(x::l).map JK:=fun c hc0=>by simp only[fld];rw[if_pos hc0,if_neg hc,ZnE ZpW,Ka,ih];rfl
  simp only[ZE];by_cases hm:k%C=0
  ·rw[if_pos ⟨hk,hm⟩];exact e 59 rfl
  ·rw[if_neg (fun e=>hm e.2),if_pos hk];exact e 32 rfl
theorem ZqW (l:List Int):fld fq [] (ZE C 0 l)=l.map JK:=by
 cases l with
 |nil=>rfl
 |cons x l=>simp only[ZE];rw[if_neg (fun e=>I),if_neg I];simp only[Ka];rw[ZnE ZpW,Ka,ZlQ I (Zhl x)];rfl
def rq (r:Nat):Bool:=r==32||r==59
theorem Zvz (c:UInt8):rq c.toNat=fq c:=by
 unfold rq fq;rw[Bool.eq_iff_iff];simp only[LW,beq_iff_eq];constructor
 ·rintro (h|h)
  ·exact .inl (UInt8.toNat_inj.1 h)
  ·exact .inr (UInt8.toNat_inj.1 h)
 ·rintro (rfl|rfl)<;>simp
def ZdK (L:List UInt8) (pos:Nat):Option Nat->List UInt8
 |none=>[]
 |some a=>(L.take pos).drop a
theorem Zdt (s:ByteArray) (ha: ∀ x∈s.data.toList,x.toNat<128): ∀ (f pos:Nat) (st:Option Nat) (acc:List (Nat×Nat)),s.size<=pos+f->pos<=s.size->(∀ a,st=some a->a<pos)->
  (Ng s (MK rq s f pos st acc)).map (fun x=>(s.data.toList.take x.2).drop x.1)=acc.map (fun x=>(s.data.toList.take x.2).drop x.1)++fld fq (ZdK s.data.toList pos st) (s.data.toList.drop pos)
 |f,pos,st,acc,hf,hp,hst=>by
  have hlen:s.data.toList.length=s.size:=CX
  by_cases hlt:pos<s.size
  ·match f,hf with
   |0,hf=>omega
   |f+1,hf=>
    have hlt':pos<s.data.toList.length:=(by rw[hlen];exact hlt);have hget:s.data.toList[pos]=s[pos]:=(by simp;rfl);have hasc:(s[pos]).toNat<128:=(by rw[←hget];exact ha _ (List.getElem_mem hlt'));have hdec:=decode_ascii s pos hlt hasc;have hdrop:s.data.toList.drop pos=s[pos]::s.data.toList.drop (pos+1):=(by rw[List.drop_eq_getElem_cons hlt',hget]);have hcs:s.data.toList[pos]? =some s[pos]:=(by rw[List.getElem?_eq_getElem hlt',hget]);simp only[MK,hlt,if_true,hdec,Zvz];rw[hdrop];by_cases hq:fq s[pos]=true
    ·rw[if_pos hq];cases st with
     |none=>simp only;rw[Zdt s ha f (pos+1) none acc I I (fun a e=>Ca)];simp only[fld,ZdK,hq];simp
     |some a=>have hap:=hst a rfl;have hne:ZdK s.data.toList pos (some a)≠[]:=Ef;simp only;rw[Zdt s ha f (pos+1) none (acc++[(a,pos)]) I I (fun a e=>Ca)];simp only[fld,hq,if_true,if_neg hne];simp[ZdK]
    ·rw[if_neg hq];cases st with
     |none=>simp only;rw[Zdt s ha f (pos+1) (some pos) acc I I (fun a e=>by cases e;omega)];simp only[fld,hq];have:ZdK s.data.toList (pos+1) (some pos)=ZdK s.data.toList pos none++[s[pos]]:=(by show (s.data.toList.take (pos+1)).drop pos=[]++[s[pos]];rw[ZH hcs,Pi Ψ,NR Ψ]);rw[this];simp
     |some a=>have hap:=hst a rfl;simp only;rw[Zdt s ha f (pos+1) (some a) acc I I (fun b e=>by cases e;omega)];simp only[fld,hq];have:ZdK s.data.toList (pos+1) (some a)=ZdK s.data.toList pos (some a)++[s[pos]]:=(by show (s.data.toList.take (pos+1)).drop a=(s.data.toList.take pos).drop a++[s[pos]];rw[ZH hcs,Pi Ψ]);rw[this];simp
  ·have hpe:pos=s.size:=I;subst hpe;rw[Lib.spansFromP_end _ _ _ _ _ _ I,NR I];cases st with
   |none=>simp[Ng,fld,ZdK]
   |some a=>have hap:=hst a rfl;have hne:ZdK s.data.toList s.size (some a)≠[]:=Ef;simp only[Ng,fld,if_neg hne,K0,JV,Kj];rfl
theorem Zlr (s:ByteArray) (ha: ∀ x∈s.data.toList,x.toNat<128):K5 rq s=(fld fq [] s.data.toList).map Za:=by
 have h:=Zdt s ha s.size 0 none [] I I (fun a e=>Ca);simp only[Kj,Ka,ZdK,Ph] at h;unfold K5 Pj;rw[←h,Mc];refine List.map_congr_left fun x _=> ?_;exact Zi3 s x.1 x.2
theorem ZmM {p:Nat->Bool} {s x:ByteArray} (h:x∈K5 p s):x.size<=s.size:=by
 unfold K5 at h;obtain ⟨y, -,rfl⟩:=Kc.1 h;rw[ByteArray.size_extract];omega
theorem Zfy (p:Nat->Bool) (s:ByteArray): ∀ (f pos:Nat) (st:Option Nat) (acc:List (Nat×Nat)),(MK p s f pos st acc).1.length<=acc.length+f
 |0,_,_,acc=>by simp[MK]
 |f+1,pos,st,acc=>by
  unfold MK;split
  ·split
   ·split
    ·have:=Zfy p s f (pos+(Utf8.decode s pos).2) none (acc++[(‹Nat›,pos)]);simp at this ⊢;omega
    ·have:=Zfy p s f (pos+(Utf8.decode s pos).2) none acc;omega
   ·split
    ·have:=Zfy p s f (pos+(Utf8.decode s pos).2) (some ‹Nat›) acc;omega
    ·have:=Zfy p s f (pos+(Utf8.decode s pos).2) (some pos) acc;omega
  ·simp
theorem Znj (p:Nat->Bool) (s:ByteArray):(K5 p s).length<=s.size+1:=by
 unfold K5 Pj;rw[KK];have h:=Zfy p s s.size 0 none [];unfold Ng;split
 ·simp at h ⊢;omega
 ·simp at h ⊢;omega
theorem ZkI {C:Nat}: ∀ {l:List Int} {k:Nat} {b:UInt8},b∈ZE C k l->b.toNat<128/\b≠91
 |[],_,_,h=>by simp[ZE] at h
 |x::l,k,b,h=>by
  simp only[ZE,Kg] at h;rcases h with h|h|h
  ·split at h
   ·simp only[Kv] at h;subst h;decide
   ·split at h
    ·simp only[Kv] at h;subst h;decide
    ·simp at h
  ·have:=Zeh h;refine ⟨I,fun e=> ?_⟩;subst e;simp at this
  ·exact ZkI h
theorem Zug (h:Zd ⟨R,C,cells⟩=true):
  JT (ZaG ⟨R,C,cells⟩) [91]=(JK R++120::JK C,ZE C 0 cells++[93],true)/\JT (JK R++120::JK C) [120]=(JK R,JK C,true):=by
 have b: ∀ (n:Int) (c:UInt8),(c=91\/c=120)-> ∀ x∈JK n,x≠c:=fun n c d x a e=>by have:=Zeh a;subst e;rcases d with rfl|rfl<;>simp at this
 refine ⟨?_,Znn (b _ _ (.inr rfl))⟩;rw[ZgE h];have e:Zdi R C++ZE C 0 cells++[93]=(JK R++120::JK C)++91::(ZE C 0 cells++[93]):=by simp[Zdi]
 rw[e];refine Znn fun x a=> ?_;rcases Kg.1 a with a|a
 ·exact b _ _ (.inl rfl) x a
 ·rcases JU.1 a with rfl|a
  ·decide
  ·exact b _ _ (.inl rfl) x a

end Go.Proofs.YtgjefeiddfjjnaaGreatDoor
