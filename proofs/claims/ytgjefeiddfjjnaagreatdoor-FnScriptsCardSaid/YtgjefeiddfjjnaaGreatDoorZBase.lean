/- What a world keeps, and how slices of integers, of slices and of structs are read and owned: the words that every contract of this claim uses. No condition. -/
import Derived.Deep.Cut
import Derived.WalkKit
import Derived.ProofKit
import Derived.OpenShut
import Derived.Lib.Hide
import Derived.Deep.QuietTactic
import Derived.BigQuiet
import Derived.OrdersHeld
import Derived.Laws.ResultCell
import Derived.SizedLaws
import Derived.Test.YtgjefeiddfjjnaaGreatDoorRows
import Derived.Great.BuildSlice
set_option maxHeartbeats 8000000
set_option maxRecDepth 100000
namespace Go.Proofs.YtgjefeiddfjjnaaGreatDoor
open Go.RowKit
open _root_.Array renaming getElem?_eq_some_iff->LG
open Bool renaming and_eq_true->JQ
open List renaming eq_nil_of_length_eq_zero->M8,getElem?_eq_getElem->JR,getElem?_take->LH,map_cons->JV,map_nil->Kj,map_take->Mj,map_toArray->L5,mem_of_mem_take->L6,take_length->Mi
open Nat renaming add_mul->Ki,add_zero->Lm,le_refl->JM,le_trans->K6,lt_of_lt_of_le->Lj,mul_le_mul_right->K9
open Option.some renaming inj->JJ,injEq->L7
open Region renaming noSelect->KH,ready->Kz,wanted->KR
open Result renaming andThen->NC,andThen_ok->KM
open Sem renaming run_bind->KA,run_pure->La
open World renaming block_lt_of_cell?->KE,cell?_of_block->OG,frozen?->OH
section
variable {P:Prop}
theorem nmE {o:Option Go.Func} {b:String->Go.Func} {p:String->Prop} (h:o=some (b ((o.map Go.Func.name).getD ""))) (h2:p ((o.map Go.Func.name).getD "")): ∃ n,p n/\o=some (b n):=⟨_,h2,h⟩
theorem kS (h:P:=by (repeat refine Keep.setCell ?_ (by first|exact fun _ e=>e rfl|exact fun _ e=>e.2 rfl|exact fun _ e=>e.1 rfl|exact fun _ e=>e.2.2 rfl|exact fun _ e=>e.2.1 rfl|exact fun _ e=>e.2.2.2 rfl) _);exact Keep.refl _ _):P:=h
theorem eX {α:Sort _} (a:α): ∃ x,x=a:=⟨a,rfl⟩
theorem oI {α:Type _} {a b:α} (h:some a=some b):a=b:=Option.some.inj h
theorem I (h:P:=by omega):P:=h
theorem Γ (h:P:=by unfold maxLen;omega):P:=h
theorem Δ (h:P:=by go_num):P:=h
theorem Θ (h:P:=by simp):P:=h
theorem Ξ (h:P:=by kernel_rfl):P:=h
theorem Φ (h:P:=by decide):P:=h
theorem Ψ (h:P:=by simp;omega):P:=h
theorem Ω (h:P:=by cases h):P:=h
theorem γ (h:P:=by simp[Value.oneCell']):P:=h
theorem δ (h:P:=by show I64 (R:Int);unfold I64;omega):P:=h
theorem ε (h:P:=by have:=hlo _ e;omega):P:=h
theorem ζ (h:P:=by rw[HL.out]<;>try go_num):P:=h
theorem η (h:P:=by show I64 (C:Int);unfold I64;omega):P:=h
theorem θ (h:P:=by unfold wrap64;omega):P:=h
theorem ι (h:P:=by unfold I64;omega):P:=h
theorem κ (h:P:=by simp at hg;omega):P:=h
theorem μ (h:P:=by rw[beq_eq_false_iff_ne];omega):P:=h
theorem ν (h:P:=by simp at h):P:=h
theorem ξ (h:P:=by rw[e];rfl):P:=h
theorem ο (h:P:=by show _<=w.heap.size+1+1;omega):P:=h
theorem σ (h:P:=by have:=fA' q hq;omega):P:=h
theorem τ (h:P:=by rw[Hn.out.2];exact OM.zero):P:=h
theorem υ (h:P:=by rw[Hno.out.2];rfl):P:=h
theorem φ (h:P:=by have:=hv q hq;omega):P:=h
theorem χ (h:P:=by unfold I64;simp only;omega):P:=h
theorem ψ (h:P:=by simp at hq;omega):P:=h
theorem ω (h:P:=by show nm.size<=maxLen;unfold maxLen;omega):P:=h
theorem Aa (h:P:=by show B.size<=maxLen;unfold maxLen;omega):P:=h
theorem Ab (h:P:=by show A.size<=maxLen;unfold maxLen;omega):P:=h
theorem Ac (h:P:=by have:=fU' q hq;omega):P:=h
theorem Ae (h:P:=by rw[Hn.out.1];rfl):P:=h
theorem Af (h:P:=by assumption):P:=h
theorem Ag (h:P:=by rw[HO.out,hok];rfl):P:=h
theorem Ah (h:P:=by rw[HN.out];rfl):P:=h
theorem Ai (h:P:=by simpa using h):P:=h
theorem Aj (h:P:=by decide+kernel):P:=h
theorem Ak (h:P:=by rw[hn] at hs;cases hs):P:=h
theorem Al (h:P:=by unfold bdM;simp only;omega):P:=h
theorem Am (h:P:=by rw[Hno.out.1];exact Zbo):P:=h
theorem Ao (h:P:=by simpa using h.len):P:=h
theorem Ap (h:P:=by have:=h.lt e;omega):P:=h
theorem Aq (h:P:=by rw[toList_data, ←HLL.out];exact beq_eq_false_iff_ne.2 he):P:=h
theorem Ar (h:P:=by unfold bdM;simp;omega):P:=h
theorem Au (h:P:=by rw[HR.out];rfl):P:=h
theorem Av (h:P:=by simp[h0]):P:=h
theorem Aw (h:P:=by have:=hlo g hg;omega):P:=h
theorem Ay (h:P:=by rw[←(hO.block q rfl).1]):P:=h
theorem Az (h:P:=by rw[toList_data,he,HLL.out];exact beq_self_eq_true _):P:=h
theorem A7 (h:P:=by rw[Hr.out];rfl):P:=h
theorem A8 (h:P:=by rw[←HX.out] at hO;exact hO.weak fun b _ hb=>Nat.le_trans hs2 hb.1):P:=h
theorem A9 (h:P:=by rw[hn];rfl):P:=h
theorem AA (h:P:=by rw[Hno.out.1];exact ZcR):P:=h
theorem AB (h:P:=by unfold rAt;rw[List.getD_eq_getElem?_getD,hr];rfl):P:=h
theorem AC (h:P:=by rw[Nat.sub_self];rfl):P:=h
theorem AF (h:P:=by unfold bdD;simp only;omega):P:=h
theorem AJ (h:P:=by rw[Hz.out.2];exact OM.zero):P:=h
theorem AL (h:P:=by have hjm:j<mu.length:=(by rw[HLn.out.1];omega);have e:mu[j]? =some mu[j]:=List.getElem?_eq_getElem hjm;rw[List.getD_eq_getElem?_getD,e];have:=HLn.out.2.2 j _ e;show k<mu[j].length;omega):P:=h
theorem AO (h:P:=by cases hx):P:=h
theorem AP (h:P:=by have h1:=Zis (m:=m) (C:=C) (p:=p) (q:=q) (i:=i);have h2:=ZfG (m:=m) (C:=C) (p:=p) (q:=q) (i:=i) (j:=j) (l:=Zt m C p q i);have h3:i*C<=24*24:=Nat.mul_le_mul (by omega) hC;omega):P:=h
theorem AQ (h:P:=by have:=hT0.ou.lt e;omega):P:=h
theorem AR (h:P:=by have:=hT0.oa.lt e;omega):P:=h
theorem AU (h:P:=by simp[h1]):P:=h
theorem AV (h:P:=by unfold Addr.add;split<;>simp_all):P:=h
theorem AX (h:P:=by rw[Hy.out.1];exact ⟨none,0,0,rfl,o7.keep hK (fun g hg _ e=>by have:=hfresh g hg;omega),xM,(fun g hg=>⟨by have:=hfresh g hg;omega,by have:=o7.lt hg;omega⟩),hDok⟩):P:=h
theorem AY (h:P:=by rw[Zy];omega):P:=h
theorem AZ (h:P:=by rw[H.out];rfl):P:=h
theorem Ba (h:P:=by rw[hw3];exact Blk.newAt _ _ _ (by simp)):P:=h
theorem Bb (h:P:=by rw[hyr,hyr2];exact ⟨y3,y4,y5,rfl,ry.grow hGa,by show I64 m.rows;rw[←Hg1.out,hR1];unfold I64;omega,by show I64 m.rows;rw[←Hg1.out,hR1];unfold I64;omega⟩):P:=h
theorem Bc (h:P:=by show I64 m.rows;rw[←Hg1.out,hR1];unfold I64;omega):P:=h
theorem Bd (h:P:=by rw[Int.tmod_eq_emod_of_nonneg (by omega)];exact q2):P:=h
theorem Be (h:P:=by unfold ZC;rw[hF];rfl):P:=h
theorem Bf (h:P:=by have:=hl2 g hg;omega):P:=h
theorem Bg (h:P:=by rw[hw3];exact Own.freshAt (cs:= #[]) (by simp) (by unfold maxLen;omega) rfl):P:=h
theorem Bh (h:P:=by unfold I64;simp):P:=h
theorem Bi (h:P:=by rw[hw3];exact (Blk.newAt _ _ _ (by simp)).alloc _):P:=h
theorem Bj (h:P:=by have h1:=hO2.cell (Zab (j:=i*C+k) (by rw[hzl];omega) (show (Zz (Za0 m C i) (i*C) k m).getD (i*C+k) 0=cell m C i k from hcell));simp only at h1;exact h1):P:=h
theorem Bk (h:P:=by have:(i+1)*C<=R*C:=Nat.mul_le_mul_right _ hi;rw[Nat.add_mul] at this;omega):P:=h
theorem Bl (h:P:=by have:=(hlo _ e).1;omega):P:=h
theorem Bn (h:P:=by rw[ZaV (by omega),if_neg];rfl;rintro ⟨h1,h2⟩;have:=Zb5 (i:=i) (i':=p) (j:=p*C+k-i*C) (j':=k) (C:=C) (by omega) hlt (by omega);exact hip this.1):P:=h
theorem Bo (h:P:=by have:=hgV _ e;omega):P:=h
theorem Bp (h:P:=by rw[hw3];exact ((Blk.new w _ _).alloc _).alloc _):P:=h
theorem Bq (h:P:=by unfold bdM;omega):P:=h
theorem Br (h:P:=by rw[Hy.out.1,Hy.out.2,hmo];exact ⟨rfl,rfl⟩):P:=h
theorem Bt (h:P:=by rw[hcs.out,hb];rfl):P:=h
theorem Bu (h:P:=by unfold Zbh;rw[Hc.out,if_neg (fun e=>ZqO e.1 (HF.out.trans e.2) hq)]):P:=h
theorem Bv (h:P:=by simpa using hx0):P:=h
theorem Bw (h:P:=by simp at e;omega):P:=h
theorem Bz (h:P:=by rw[hwa];exact (Grow.refl _).drew):P:=h
theorem B6 (h:P:=by have:=fU q hq;simp at this;omega):P:=h
theorem BA (h:P:=by rw[Hr.out.2];exact ⟨none,0,0,rfl,Own.nilw,(fun _ hx=>by cases hx),(fun g hg=>by simp at hg),by unfold I64;simp,by unfold I64;simp⟩):P:=h
theorem BB (h:P:=by rw[E.out];rfl):P:=h
theorem BC (h:P:=by rw[Hr.out.1,Hr.out.2];rfl):P:=h
theorem BD (h:P:=by rw[He.out];exact ⟨none,0,0,rfl,Own.nilw,(fun _ hx=>by cases hx),(fun g hg=>by simp at hg),by unfold I64;simp,by unfold I64;simp⟩):P:=h
theorem BF (h:P:=by unfold ROk rsM rs0 rsZ I64;simp):P:=h
theorem BG (h:P:=by have:=oA.len;simp at this;omega):P:=h
theorem BH (h:P:=by unfold bdM;have h1:=hs.lu;have h2:R*R<=6*6:=Nat.mul_le_mul hR2 hR2;have h3:m.rows=R:=(by rw[←Hg1.out];exact hR1);simp only;omega):P:=h
theorem BI (h:P:=by have:=(hlo g hg).1;omega):P:=h
theorem BJ (h:P:=by unfold Zbh;rw[Hc.out,if_pos ⟨Hsp.out,HF.out.symm.trans he⟩]):P:=h
theorem BK (h:P:=by show g<=w.heap.size+1;exact Nat.le_succ_of_le (Nat.le_of_lt hg)):P:=h
theorem BL (h:P:=by rw[Hz.out.1];rfl):P:=h
theorem BN (h:P:=by have:=fU' _ e;omega):P:=h
theorem BO (h:P:=by unfold Zaj;rw[HMA.out,HMB.out];simp[hcr]):P:=h
theorem BP (h:P:=by rw[ZaV (by omega),if_neg (by omega)];rfl):P:=h
theorem BQ (h:P:=by have:=hfresh g hg;omega):P:=h
theorem BR (h:P:=by have:=hT0.ov.lt e;omega):P:=h
theorem BS (h:P:=by have:=(fP q hq).1;omega):P:=h
theorem BU (h:P:=by have:=(fP g hg).1;omega):P:=h
theorem BV (h:P:=by have:=(hO.set k (Yv Yi (xs.getD k 0+ys.getD k 0))).grow (Grow.refl _).drew;rw[←ints_set, ←Hst.out] at this;exact this):P:=h
theorem BX (h:P:=by unfold Zbh;rw[Hc.out,if_neg (fun e=>he (HF.out.trans e.2))]):P:=h
theorem BZ (h:P:=by intro z hz;simp at hz;unfold I64;omega):P:=h
theorem Ca (h:P:=by cases e):P:=h
theorem Cb (h:P:=by have:=hA.oM.len;have:=HLn.out.1;omega):P:=h
theorem Cc (h:P:=by unfold Zd ZbW;rw[decide_eq_false (fun hh=>h5 (by have:=hh.2.2.2.2;rw[hmul] at this;simp only at this;omega))];rfl):P:=h
theorem Cd (h:P:=by simpa using h2):P:=h
theorem Ce (h:P:=by rw[Hz.out];rfl):P:=h
theorem Cf (h:P:=by unfold Zq;rw[hF];rfl):P:=h
theorem Cg (h:P:=by rw[HN.out];exact SepD.nilAt rfl rfl ⟨hsz,by simp⟩):P:=h
theorem Ch (h:P:=by rw[hw3];exact (Own.freshAt (cs:= #[]) (by simp) (by unfold maxLen;omega) rfl).grow ((Grow.refl _).alloc _ _)):P:=h
theorem Ci (h:P:=by simp at hg):P:=h
theorem Cj (h:P:=by rw[Hr.out.1];rfl):P:=h
theorem Ck (h:P:=by show I64 (xn:Int);unfold I64;omega):P:=h
theorem Cl (h:P:=by rw[hd] at hh;exact hQ c a d v w hh):P:=h
theorem Cm (h:P:=by show cell (swR s.1 C p t) C t j≠0;rw[Zej hs.la hpR htR hpe hjC,if_neg (by omega),if_pos rfl];exact hv.ne):P:=h
theorem Cn (h:P:=by have:=hgT _ e;omega):P:=h
theorem Co (h:P:=by rw[Hn.out.2];exact ⟨pa,pn,pc,rfl,hoP,rP,fun q hq=>⟨by have:=(fP q hq).1;omega,hoP.lt hq⟩,j1,j2⟩):P:=h
theorem Cq (h:P:=by have:=hO2.set (i*C+k) (Yv Yi ((cell m C i k).tdiv D));rw[←ints_set, ←Hset.out] at this;exact this):P:=h
theorem Cr (h:P:=by simp[madeCells]):P:=h
theorem Cs (h:P:=by rw[←Hh.out,Hh2.out,HS.out];rfl):P:=h
theorem Ct (h:P:=by rw[hw8];exact (Grow.refl _).drew):P:=h
theorem Cu (h:P:=by rw[hw7];exact (Grow.refl _).drew):P:=h
theorem Cv (h:P:=by rw[List.getElem?_append_left (by omega)];exact h1):P:=h
theorem Cw (h:P:=by have:=(fR g hg).1;omega):P:=h
theorem Cx (h:P:=by rw[←Hpt.out];exact ZU (by rw[hs.la];exact hnt)):P:=h
theorem Cy (h:P:=by have:=Option.some.inj hg;simp only at this;omega):P:=h
theorem Cz (h:P:=by simp only[Zas,HI.out,Option.bind_some,HJi.out,Hri.out,hq,Bool.true_and];rw[if_neg (by simp;omega)]):P:=h
theorem C4 (h:P:=by have:R*C<=24*24:=Nat.mul_le_mul hR24 hC24;omega):P:=h
theorem C5 (h:P:=by have:=Option.some.inj e;simp only at this;omega):P:=h
theorem C6 (h:P:=by simp only[List.isPrefixOf,Bool.and_true];exact beq_eq_false_iff_ne.2 fun e=>h b (by simp) e.symm):P:=h
theorem C8 (h:P:=by simpa using h1):P:=h
theorem C9 (h:P:=by rw[List.drop_eq_nil_iff];omega):P:=h
theorem CA (h:P:=by have:=hKw.size;have:=hG2.size;simp at hq;omega):P:=h
theorem CB (h:P:=by simp[rsM,rs0,rsZ]):P:=h
theorem CD (h:P:=by rw[←Hf.out];rfl):P:=h
theorem CE (h:P:=by unfold trB;rw[hB];rfl):P:=h
theorem CF (h:P:=by unfold ZbS;rw[hB];rfl):P:=h
theorem CG (h:P:=by have:=h.oa.lt e;omega):P:=h
theorem CJ (h:P:=by simp[hy]):P:=h
theorem CK (h:P:=by split<;>omega):P:=h
theorem CL (h:P:=by simp[List.getD,List.getElem?_eq_getElem hi]):P:=h
theorem CO (h:P:=by rw[show j+1-(t+1)=(j-(t+1))+1 by omega,Zlg,show t+1+(j-(t+1))=j by omega,Bool.and_assoc]):P:=h
theorem CP (h:P:=by rw[ByteArray.size_append];have:(⟨#[115,104,111,119,32]⟩:ByteArray).size=5:=rfl;omega):P:=h
theorem CQ (h:P:=by (rw[←Hh.out];cases (200-f) with |zero=>exact Zgc hlt|succ q=>rw[ZfA hlt,Hac.out];rfl)):P:=h
theorem CR (h:P:=by have:=hlt4 _ e;omega):P:=h
theorem CS (h:P:=by have:=h.lu q e;omega):P:=h
theorem CT (h:P:=by have:=h.la q e;omega):P:=h
theorem CU (h:P:=by simp at hy;unfold I64;omega):P:=h
theorem CV (h:P:=by show _<=w.heap.size+1;omega):P:=h
theorem CW (h:P:=by rw[Hno.out.1,Hno.out.2];rfl):P:=h
theorem CX (h:P:=by rw[Array.length_toList];rfl):P:=h
theorem CY (h:P:=by rw[←h2];unfold Zan;rw[hc,if_pos rfl,hd];simp only;rw[show t+1+(i-(t+1))=i by omega]):P:=h
theorem CZ (h:P:=by have:=hA4.own;rw[HX.out];simpa using this):P:=h
theorem Da (h:P:=by simp at hl):P:=h
theorem Db (h:P:=by rw[hw3];simp):P:=h
theorem Dc (h:P:=by simpa using hA2.own):P:=h
theorem Df (h:P:=by rw[hs.la];exact hni):P:=h
theorem Dg (h:P:=by have:=hO.lt e;omega):P:=h
theorem Dh (h:P:=by have:=fA' _ e;omega):P:=h
theorem Di (h:P:=by have:=hq.2;simp at e;omega):P:=h
theorem Dj (h:P:=by show ((ZbB g N mu s' i j).bind _)=none;rw[HJ.out,Option.bind_some,Hr.out,hq];rfl):P:=h
theorem Dk (h:P:=by rw[hOff];exact ⟨fun e=>by have:=fA' _ e;omega,fun e=>by have:=fU' _ e;omega⟩):P:=h
theorem Dl (h:P:=by rw[ZeW hmR hiR hpR hip k (by omega) p k hlt,if_neg (by omega),if_neg (by omega)]):P:=h
theorem Dm (h:P:=by rw[ZeW hmR hiR hpR hip k (by omega) i k hlt,if_neg (by omega),if_neg (by omega)]):P:=h
theorem Dn (h:P:=by rw[HN.out] at ho;cases ho):P:=h
theorem Dp (h:P:=by rw[HF.out];rfl):P:=h
theorem Dq (h:P:=by have:=lR _ e;omega):P:=h
theorem Dr (h:P:=by rw[hd] at hh;exact hQ c a d undef w hh):P:=h
theorem Dt (h:P:=by simp at hg;exact hg.symm):P:=h
theorem Du (h:P:=by rw[hops];exact Zch hin.1):P:=h
theorem Dw (h:P:=by exact fun _ _ _ _ _ h=>h):P:=h
theorem Dx (h:P:=by rw[List.getD_eq_getElem?_getD,hx];rfl):P:=h
theorem Dy (h:P:=by have:=hA3.own;simpa [ints] using this):P:=h
theorem Dz (h:P:=by simp[hcr]):P:=h
theorem D4 (h:P:=by simp at hs6;omega):P:=h
theorem D6 (h:P:=by show cell (ZdT s1.1 C t) C t j≠0;rw[Zi7 hs1.la htR hjC,if_pos rfl];omega):P:=h
theorem D7 (h:P:=by rw[show j+1-t=(j-t)+1 by omega];simp only[lsJ];rw[show t+(j-t)=j by omega]):P:=h
theorem D8 (h:P:=by rw[show i+1-t=(i-t)+1 by omega];simp only[lsI];rw[show t+(i-t)=i by omega]):P:=h
theorem DA (h:P:=by show xs.length<=_;omega):P:=h
theorem DB (h:P:=by rw[show i+1-(t+1)=(i-(t+1))+1 by omega,ZkL,show t+1+(i-(t+1))=i by omega]):P:=h
theorem DC (h:P:=by rw[e1];exact Zbt h.la (by omega) hk):P:=h
theorem DD (h:P:=by intro e;have:=congrArg List.length e;simp at this;subst this;simp at hlt):P:=h
theorem DE (h:P:=by have:=Option.some.inj erb;simp only[Addr.mk.injEq] at this;exact this.1):P:=h
theorem DF (h:P:=by simp[cmpL]):P:=h
theorem DH (h:P:=by rw[Hy.out.2];rfl):P:=h
theorem DI (h:P:=by unfold ZQ;rw[if_neg e]):P:=h
theorem DJ (h:P:=by have:=oA5.lt hq;have:=fU q e;omega):P:=h
theorem DK (h:P:=by rw[Go.Sort.alloc_eq_grow,Go.Sort.alloc_eq_grow,Go.Sort.grow_grow];rfl):P:=h
theorem DL (h:P:=by have:=congrArg List.length he;rw[hlen,List.length_take] at this;omega):P:=h
theorem DM (h:P:=by have:=(List.getElem?_eq_some_iff.1 hj).1;simp[rsL] at this;exact this):P:=h
theorem DN (h:P:=by rfl):P:=h
theorem DP (h:P:=by simp[h2]):P:=h
theorem DQ (h:P:=by simp[maxLen]):P:=h
theorem DR (h:P:=by rw[hw1];simp):P:=h
theorem DS (h:P:=by show I64 (i:Int);unfold I64;omega):P:=h
theorem DT (h:P:=by unfold Zdf;rw[if_pos hB,hmr,hmc,Int.toNat_natCast,Int.toNat_natCast]):P:=h
theorem DU (h:P:=by unfold Zdb;rw[if_pos hB,hmr,hmc,Int.toNat_natCast,Int.toNat_natCast]):P:=h
theorem DV (h:P:=by have h2:=rX.row.max;have h3:=rX.row.le;simp only[maxLen] at h2;omega):P:=h
theorem DW (h:P:=by have h2:=(List.getElem?_eq_some_iff.1 hi).1;simpa [ZbO,rsL] using h2):P:=h
theorem DX (h:P:=by unfold inB;simp;omega):P:=h
theorem DY (h:P:=by unfold Zap;rw[ha];rfl):P:=h
theorem DZ (h:P:=by rw[Hunf.out,hA14];rfl):P:=h
theorem Ea (h:P:=by rw[HLn.out.2.1];omega):P:=h
theorem Eb (h:P:=by have:=hlo7 q hq;omega):P:=h
theorem Ec (h:P:=by simp[Zau];omega):P:=h
theorem Ed (h:P:=by rw[hwd];exact (Grow.refl _).drew):P:=h
theorem Ee (h:P:=by rw[beq_eq_false_iff_ne];exact h0):P:=h
theorem Ef (h:P:=by unfold ZdK;intro e;have:=congrArg List.length e;simp at this;omega):P:=h
theorem Eg (h:P:=by simp only at e;omega):P:=h
theorem Eh (h:P:=by rw[if_neg (by simp)]):P:=h
theorem Ei (h:P:=by rw[Hu.out];exact hO9):P:=h
theorem Ej (h:P:=by rw[Hl.out];exact hni):P:=h
theorem El (h:P:=by have:=oTa.lt e;omega):P:=h
theorem Em (h:P:=by have:=hltA _ e;omega):P:=h
theorem En (h:P:=by have:=fV' q hq;omega):P:=h
theorem Eo (h:P:=by have:=List.mem_range.1 hx;omega):P:=h
theorem Ep (h:P:=by have:=HS1.out;have:=hG1.size;have:=hK5.size;have:=hGb.size;omega):P:=h
theorem Er (h:P:=by rw[HY.out];exact (hS5.grow hG6).weak fun b hb hF=>⟨hF.1,hb⟩):P:=h
theorem Es (h:P:=by have:=Z6 (i:=i+1) (c:=C) (by omega) (by omega);simpa using this):P:=h
theorem Et (h:P:=by simpa using hp):P:=h
theorem Eu (h:P:=by simp only[maxLen] at h63;omega):P:=h
theorem Ev (h:P:=by rw[show C-j=(C-(j+1))+1 by omega];simp only[ZW];rw[if_pos htR]):P:=h
theorem Ew (h:P:=by rw[Nat.add_assoc];exact hc _ _ (by rw[Zel hk' h3 hj];exact hv)):P:=h
theorem Ex (h:P:=by have:=ZdO hm (C:=C) (p:=p) (q:=q) (i:=i) x hx;unfold I64;omega):P:=h
theorem Ey (h:P:=by simp[h]):P:=h
theorem Ez (h:P:=by rw[Zeo hB];exact hn):P:=h
theorem E7 (h:P:=by rw[HX.out];exact hO):P:=h
theorem E8 (h:P:=by rw[HX.out];exact bO):P:=h
theorem EA (h:P:=by have ein:i=N:=(by omega);have:=hI;rw[ein] at this;exact this):P:=h
theorem EB (h:P:=by rw[Nat.zero_add,h.cell, ←hj, ←hc,Array.getElem?_toList]):P:=h
theorem EC (h:P:=by simp[hx]):P:=h
theorem ED (h:P:=by rw[HU.out,hgo];rfl):P:=h
theorem EE (h:P:=by have:=HM.out;omega):P:=h
theorem EF (h:P:=by have:g<w.heap.size:=hg;omega):P:=h
theorem EG (h:P:=by have:=hh.2.2.2.2;rw[hmul] at this;simp only at this;omega):P:=h
theorem EH (h:P:=by intro e;subst e;simp at hne):P:=h
theorem EI (h:P:=by unfold ZZ;rw[hm,decide_eq_true h1,decide_eq_true h2];rfl):P:=h
theorem EJ (h:P:=by have h:xs.length=(1+y)*2:=(by simpa using hO6.len);omega):P:=h
theorem EK (h:P:=by simp[swR,ZbA,Zbg]):P:=h
theorem EL (h:P:=by simp[addR,ZM,Zbg]):P:=h
theorem EM (h:P:=by rw[hN];exact ZK (by omega)):P:=h
theorem EN (h:P:=by rw[hD];exact ZK (by omega)):P:=h
theorem EO (h:P:=by rw[hB];exact ZK (by omega)):P:=h
theorem EP (h:P:=by rw[hA];exact ZK (by omega)):P:=h
theorem EQ (h:P:=by rintro ⟨_,h|h⟩<;>omega):P:=h
theorem ER (h:P:=by have:=Zkz (stK kn) n;omega):P:=h
theorem ES (h:P:=by simp[I64]):P:=h
theorem ET (h:P:=by simp at e):P:=h
theorem EU (h:P:=by have:=rI.len;unfold Ze5 at this;simpa using this.symm):P:=h
theorem EV (h:P:=by rw[Hy.out.1];rfl):P:=h
theorem EW (h:P:=by rw[HF.out.1,HF.out.2];rfl):P:=h
theorem EX (h:P:=by rintro (e|e);exact Zaz (Zk h C p k) e;exact Zaz ht e):P:=h
theorem EY (h:P:=by revert hlb;cases (ZN s.1 C R t&&Zao s.1 C t)<;>simp):P:=h
theorem EZ (h:P:=by (rw[←Hh.out,show 200-f=0 by omega];exact Zgc hlt)):P:=h
theorem Fa (h:P:=by rw[hw2];exact h.grow hG2):P:=h
theorem Fb (h:P:=by rw[Hnd.out];exact HX.out):P:=h
theorem Fe (h:P:=by rw[←hln,hl];have:=Zf (C:=N) (R:=N) hlt hN1;omega):P:=h
theorem Ff (h:P:=by rw[beq_eq_false_iff_ne];intro e;subst e;simp at hb):P:=h
theorem Fg (h:P:=by simpa using hp0):P:=h
theorem Fh (h:P:=by have:=h.1;omega):P:=h
theorem Fj (h:P:=by unfold rAt;rw[List.getD_eq_getElem?_getD,hr2];rfl):P:=h
theorem Fl (h:P:=by rw[hq,e]):P:=h
theorem Fm (h:P:=by rw[←hln,hl];exact hcl):P:=h
theorem Fp (h:P:=by rw[←HX.out];exact hgo):P:=h
theorem Fq (h:P:=by have:=(hlo g e).1;omega):P:=h
theorem Fs (h:P:=by have:=(fA q hq).1;omega):P:=h
theorem Fu (h:P:=by have:=Option.some.inj hq;simp only at this;omega):P:=h
theorem Fv (h:P:=by rw[hstep.out,if_pos ⟨hx0, .inl (by omega)⟩]):P:=h
theorem Fw (h:P:=by simp at hq):P:=h
theorem Fx (h:P:=by rw[hE.out]):P:=h
theorem Fy (h:P:=by simpa using hi):P:=h
theorem Fz (h:P:=by rw[h.cell];rfl):P:=h
theorem F2 (h:P:=by rw[Hl.out];rfl):P:=h
theorem F3 (h:P:=by rw[HC.out];rfl):P:=h
theorem F4 (h:P:=by funext j;omega):P:=h
theorem F5 (h:P:=by (exact HN.out)):P:=h
theorem F6 (h:P:=by simp[Region.wanted,hg]):P:=h
theorem F7 (h:P:=by show _<=(0:Int);decide):P:=h
theorem F8 (h:P:=by show (0:Int)<=_;decide):P:=h
theorem F9 (h:P:=by have:=hA5.lS _ e;omega):P:=h
theorem FB (h:P:=by have:=hA5.lR _ e;omega):P:=h
theorem FC (h:P:=by rw[Hcs.out];exact fun e=>he (HF.out.trans e.2)):P:=h
theorem FD (h:P:=by
 obtain ⟨nm,op,A,B,r,c,va,vn,vc,xs,bD,hO,hx,hv,h1,h2,h3,h4,h5,h6,h7⟩:=HT;go_wp2_with fail;refine (Ze0 g 24 _ hC I).mono ?_;rintro e wu ⟨b,rfl,hCu,hKu⟩;have bDu:=bD.keep hKu I;have bZu:=bZ.keep hKu I;have hOu:=hO.keep hKu (fun q hq _ e=>φ);have hKt2:=hKt.trans hKu;clear bD bZ hO hC hKt hKu;cases b with
 |false=>
  obtain ⟨⟨d0,d1,d2,d3,d4,d5,d6⟩,df0⟩:=bDu.seven;obtain ⟨⟨z0,z1,z2,z3,z4,z5,z6⟩,zf0⟩:=bZu.seven;have zf1:=bZu.free 1;have zf2:=bZu.free 2;have zf3:=bZu.free 3;have zf4:=bZu.free 4;have zf5:=bZu.free 5;have zf6:=bZu.free 6;have hltD:=bDu.lt;have hltZ:=bZu.lt;go_wp2;have hKs:Keep (fun q=>q≠w.heap.size) wu (((((((wu.setCell ⟨w.heap.size,0,none⟩ (.string nm)).setCell ⟨w.heap.size,1,none⟩ (.int .i64 op)).setCell ⟨w.heap.size,2,none⟩ (.string A)).setCell ⟨w.heap.size,3,none⟩ (.string B)).setCell ⟨w.heap.size,4,none⟩ (.int .i64 r)).setCell ⟨w.heap.size,5,none⟩ (.int .i64 c)).setCell ⟨w.heap.size,6,none⟩ (.slice va vn vc)):=
   kS
  exact Zx Zbd rfl rfl rfl (((((((bZu.set 0 _).set 1 _).set 2 _).set 3 _).set 4 _).set 5 _).set 6 _) ⟨_,⟨nm,op,A,B,⟨r,c,xs⟩⟩,rfl,⟨va,vn,vc,rfl,hOu.keep hKs (fun q hq _ e=>φ),hx,(fun q hq=>Nat.le_of_lt (hv q hq).1),⟨ω,h2,Ab,Aa,h5,h6⟩⟩,AF,hCu.keep hKs (fun q hq e=>I),Zg (Zg (Zg (Zg (Zg (Zg (Zg hKt2 (Nat.le_refl _) _) (Nat.le_refl _) _) (Nat.le_refl _) _) (Nat.le_refl _) _) (Nat.le_refl _) _) (Nat.le_refl _) _) (Nat.le_refl _) _⟩
 |true=>
  have hgu:=hCu.lt;have hRp:RdI (wu.alloc (.cells #[.int .i64 (-1), .int .i64 10, .int .i64 0] 3)) (fun q=>q=wu.heap.size) (some ⟨wu.heap.size,0,none⟩) 3 3 [-1,10,0]:=RdI.litF (Blk.new _ _ _) rfl rfl Θ BZ rfl;have hGa:=(Grow.refl wu).alloc #[.int .i64 (-1), .int .i64 10, .int .i64 0] 3;go_wp2_with fail;refine (ZgK g _ _ _ _ _ (hCu.grow hGa) hRp (fun q hq=>I) I I).mono ?_;rintro e wv ⟨y,hy,rfl,hCv,hKv⟩;have hy2:I64 y:=CU;have hKa:=hGa.any.trans hKv;have bDv:=bDu.keep hKa I;have bZv:=bZu.keep hKa I;have hOv:=hOu.keep hKa (fun q hq _ e=>φ);have hKt3:=hKt2.trans hKa;clear bDu bZu hOu hCu hKt2 hKa hGa hRp hKv hy;obtain ⟨⟨d0,d1,d2,d3,d4,d5,d6⟩,df0⟩:=bDv.seven;have df1:=bDv.free 1;obtain ⟨⟨z0,z1,z2,z3,z4,z5,z6⟩,zf0⟩:=bZv.seven;have zf1:=bZv.free 1;have zf2:=bZv.free 2;have zf3:=bZv.free 3;have zf4:=bZv.free 4;have zf5:=bZv.free 5;have zf6:=bZv.free 6;have hltD:=bDv.lt;have hltZ:=bZv.lt;go_wp2;have hKs:Keep (fun q=>q≠w.heap.size/\q≠gd) wv ((((((((wv.setCell ⟨gd,1,none⟩ (.int .i64 y)).setCell ⟨w.heap.size,0,none⟩ (.string nm)).setCell ⟨w.heap.size,1,none⟩ (.int .i64 y)).setCell ⟨w.heap.size,2,none⟩ (.string A)).setCell ⟨w.heap.size,3,none⟩ (.string B)).setCell ⟨w.heap.size,4,none⟩ (.int .i64 r)).setCell ⟨w.heap.size,5,none⟩ (.int .i64 c)).setCell ⟨w.heap.size,6,none⟩ (.slice va vn vc)):=
   kS
  exact Zx Zbd rfl rfl rfl ((((((((bZv.other (p:=⟨gd,1,none⟩) Ψ _).set 0 _).set 1 _).set 2 _).set 3 _).set 4 _).set 5 _).set 6 _) ⟨_,⟨nm,y,A,B,⟨r,c,xs⟩⟩,rfl,⟨va,vn,vc,rfl,hOv.keep hKs (fun q hq _=>φ),hx,(fun q hq=>Nat.le_of_lt (hv q hq).1),⟨ω,hy2,Ab,Aa,h5,h6⟩⟩,AF,hCv.keep hKs (fun q hq=>I),Zg (Zg (Zg (Zg (Zg (Zg (Zg (Zg hKt3 (Nat.le_of_lt hgd) _) (Nat.le_refl _) _) (Nat.le_refl _) _) (Nat.le_refl _) _) (Nat.le_refl _) _) (Nat.le_refl _) _) (Nat.le_refl _) _) (Nat.le_refl _) _⟩):P:=h
theorem FE (h:P:=by
 have h1:w.heap.size<=w.heap.size+1:=I;have h2:w.heap.size<=w.heap.size+1+1:=I;have n12:w.heap.size+1≠w.heap.size+1+1:=I;obtain ⟨⟨a0,a1,a2⟩,f0,f1,f2⟩:=bR1.three;obtain ⟨⟨b0,b1,b2⟩,g0,g1,g2⟩:=bR2.three;have hltA:=bR1.lt;have hltB:=bR2.lt;go_wp2
 refine Zv Zc Zc rfl rfl rfl rfl
  ((((((bR1.set 0 _).set 1 _).set 2 _).other n12 _).other n12 _).other n12 _)
  ((((((bR2.other n12.symm _).other n12.symm _).other n12.symm _).set 0 _).set 1 _).set 2 _) ?_
 exact ⟨(((((hG.setCell h1 _).setCell h1 _).setCell h1 _).setCell h2 _).setCell h2 _).setCell h2 _, .inl ⟨Hn.out,rfl⟩⟩):P:=h
theorem FH (h:P:=by
 rintro e w8 ⟨rv,rfl,⟨pa,pn,pc,rfl,oP,rP,fP,j1,j2⟩,hG8⟩;have hpb:=Zf4 um m;obtain ⟨pm,hpm⟩:=eX (Zq um m);rw[←hpm] at oP rP j1 j2 hpb Hy ⊢;clear hpm;obtain ⟨w9,hw9,hGa,bP, -⟩:=al1 w8 #[Yv Yi pm.rows,Yv Yi pm.cols, .slice pa pn pc] 37;have Hw9:=hid hw9;have hlt78:w.heap.size+1+1<w7.heap.size:=bR2.lt;have hltU7:w6.heap.size+1<w8.heap.size:=(bU.grow hG8).lt;clear hw9 q0 q1 q2 hltU m0 m1 m2 hltM;replace bU:=(bU.grow hG8).grow hGa;replace bR1:=(bR1.grow hG8).grow hGa;replace bR2:=(bR2.grow hG8).grow hGa;replace hG:=(hG.trans hG8).trans hGa;cases hmo:ZC um m with
 |false=>
  have Hn:=hid (show ZbH m=false/\Zbe m={rows:=0,cols:=0,cells:=[]} by rw[Hy.out.1,Hy.out.2,hmo];exact ⟨rfl,rfl⟩);clear hmo;rw[Hw9.out] at bR1 bR2 hG;have h1:w.heap.size<=w.heap.size+1:=I;have h2:w.heap.size<=w.heap.size+1+1:=I;have n12:w.heap.size+1≠w.heap.size+1+1:=I;obtain ⟨⟨a0,a1,a2⟩,f0,f1,f2⟩:=bR1.three;obtain ⟨⟨b0,b1,b2⟩,g0,g1,g2⟩:=bR2.three;have hltA:=bR1.lt;have hltB:=bR2.lt;go_wp2
  refine Zv Zc Zc rfl rfl rfl rfl
   ((((((bR1.set 0 _).set 1 _).set 2 _).other n12 _).other n12 _).other n12 _)
   ((((((bR2.other n12.symm _).other n12.symm _).other n12.symm _).set 0 _).set 1 _).set 2 _)
   ⟨_,_,_,_,_,_,Ae,τ,(((((hG.setCell h1 _).setCell h1 _).setCell h1 _).setCell h2 _).setCell h2 _).setCell h2 _⟩
 |true=>
  have Hn:=hid (show ZbH m=true/\Zbe m=pm by rw[Hy.out.1,Hy.out.2,hmo];exact ⟨rfl,rfl⟩);clear hmo Hy;go_wp2;rw[←Hw9.out];have nP:w8.heap.size≠w.heap.size+1/\w8.heap.size≠w.heap.size+1+1:=⟨I,I⟩;have nU:w6.heap.size+1≠w.heap.size+1/\w6.heap.size+1≠w.heap.size+1+1:=⟨I,I⟩;refine Zcr (fun q=>q≠w.heap.size+1/\q≠w.heap.size+1+1) [([0,1],some 2),([],some 3),([4],none)] ?_;refine Zh ?_;obtain ⟨wa,hwa⟩:=eX w9.drew;rw[←hwa];have hGb:Grow w9 wa:=Bz;clear hwa;have bR8:=bR1.grow hGb;have bS8:=bR2.grow hGb;refine Zu rfl (fun K hK=> ?_);obtain ⟨⟨a0,a1,a2⟩,f0,f1,f2⟩:=bR8.three;have hltA:=bR8.lt;go_wp2_with fail;have hK8:Keep (fun q=>q≠w.heap.size+1) wa (((wa.setCell ⟨w.heap.size+1,0,none⟩ (Yv Yi pm.rows)).setCell ⟨w.heap.size+1,1,none⟩ (Yv Yi pm.cols)).setCell ⟨w.heap.size+1,2,none⟩ (.slice pa pn pc)):=
   kS
  have bR9:=((bR8.set 0 (Yv Yi pm.rows)).set 1 (Yv Yi pm.cols)).set 2 (.slice pa pn pc);have bS9:=bS8.keep hK8 I;refine hK _ _ (((hGb.mono fun _ _ _=>trivial).trans (hK8.mono fun q _ hb=>hb.1))) ?_;clear hK K;generalize (((wa.setCell ⟨w.heap.size+1,0,none⟩ (Yv Yi pm.rows)).setCell ⟨w.heap.size+1,1,none⟩ (Yv Yi pm.cols)).setCell ⟨w.heap.size+1,2,none⟩ (.slice pa pn pc))=wb at *;clear a0 a1 a2 f0 f1 f2 hltA;refine Zh ?_;refine Zu rfl (fun K hK=> ?_);obtain ⟨⟨b0,b1,b2⟩,g0,g1,g2⟩:=bS9.three;have hltB:=bS9.lt;go_wp2_with fail;have hK9:Keep (fun q=>q≠w.heap.size+1+1) wb (((wb.setCell ⟨w.heap.size+1+1,0,none⟩ (Yv Yi y1)).setCell ⟨w.heap.size+1+1,1,none⟩ (Yv Yi y2)).setCell ⟨w.heap.size+1+1,2,none⟩ (.slice y3 y4 y5)):=
   kS
  have bSA:=((bS9.set 0 (Yv Yi y1)).set 1 (Yv Yi y2)).set 2 (.slice y3 y4 y5);have bRA:=bR9.keep hK9 I;refine hK _ _ ((((hGb.mono fun _ _ _=>trivial).trans (hK8.mono fun q _ hb=>hb.1)).trans (hK9.mono fun q _ hb=>hb.2))) ?_;clear hK K;refine Zh ?_;refine Ze ?_;have hGe:=((hG.trans hGb).keep hK8 (fun q hq=>I)).keep hK9 (fun q hq=>I);have hs7:=hG8.size;have hoP:=(((oP.grow hGa).grow hGb).keep hK8 (fun q hq _ e=>BS)).keep hK9 (fun q hq _ e=>BS);go_wp2;exact Zv Zc Zc rfl rfl rfl rfl bRA bSA ⟨_,_,_,_,_,_,Ae,Co,hGe⟩):P:=h
theorem FI (h:P:=by
 have Hb2:=hid (hb2 rfl);obtain ⟨hvl,hvn⟩:=hfv rfl;obtain rfl:=Hb2.out;clear hb2 Hb2;obtain ⟨⟨t0,t1,t2⟩, -⟩:=bTa9.three;have hltA:=bTa9.lt;go_wp2_with fail;refine (Zce (oA9.rdI (S:=fun _=>True) (fun _ _=>trivial) (Zp hfn)) hfl hfn hC hR).mono ?_;rintro e w10 ⟨na,rfl,oN,lN,hG10⟩;have P10:=P9.grow hG10;have bTv10:=bTv9.grow hG10;have oV10:=oV9.grow hG10;have hg10:g<w10.heap.size:=Blk.lt P10.wk;have wf:=P10.wk.g;obtain ⟨c0,c1,c2, -, -, -, -,f0,f1,f2, -, -, -, -⟩:=wf;have hs9:=hKB9.size;have nNg:blk na≠some g:=fun e=>(by have:=lN _ e;omega);have hKw:Keep (fun q=>q≠g) w10 (((w10.setCell ⟨g,0,none⟩ (Yv Yi (R:Int))).setCell ⟨g,1,none⟩ (Yv Yi (C:Int))).setCell ⟨g,2,none⟩ (.slice na (R*C) (R*C))):=
  kS
 have hW11:Wk (((w10.setCell ⟨g,0,none⟩ (Yv Yi (R:Int))).setCell ⟨g,1,none⟩ (Yv Yi (C:Int))).setCell ⟨g,2,none⟩ (.slice na (R*C) (R*C))) g R C na au ar (R*C) cu cr false:=
  ((Blk.set P10.wk 0 (Yv Yi (R:Int))).set 1 (Yv Yi (C:Int))).set 2 (.slice na (R*C) (R*C))
 have nTvg:w6.heap.size≠g:=I;have bTv11:=bTv10.keep hKw nTvg;have oV11:=oV10.keep hKw (fun q hq _ e=>by have:=hgV _ hq;omega);have oN11:=oN.keep hKw (fun q hq _ e=>by have:=lN _ hq;omega);have oU11:=P10.th.ou.keep hKw (fun q hq _ e=>P10.nu (e▸hq));have hKB11:=(hKB9.trans hG10.any).trans (hKw.mono fun q _ hq e=>I);clear t0 t1 t2 hltA bTa9 oA9 P9;obtain ⟨⟨t0,t1,t2⟩, -⟩:=bTv10.three;have hltV:=bTv10.lt;have nTvg': ¬ w6.heap.size=g:=nTvg;have nTvg2: ¬ g=w6.heap.size:=fun e=>nTvg e.symm;go_wp2_with fail;clear t0 t1 t2 hltV nTvg' nTvg2 c0 c1 c2 f0 f1 f2;generalize hw11:((w10.setCell ⟨g,0,none⟩ (Yv Yi (R:Int))).setCell ⟨g,1,none⟩ (Yv Yi (C:Int))).setCell ⟨g,2,none⟩ (.slice na (R*C) (R*C))=w11 at *;refine (Zce (oV11.rdI (S:=fun _=>True) (fun _ _=>trivial) (Zp hvn)) hvl hvn hC hC).mono ?_;rintro e w12 ⟨nv,rfl,oNV,lNV,hG12⟩;have W12:=hW11.grow hG12;have hg12:g<w12.heap.size:=Blk.lt W12;have wf:=W12.g;obtain ⟨-, -, -,c6,c7,c8, -, -, -, -,f6,f7,f8, -⟩:=wf;have hs11:=hKB11.size;have hKw2:Keep (fun q=>q≠g) w12 (((w12.setCell ⟨g,6,none⟩ (Yv Yi (C:Int))).setCell ⟨g,7,none⟩ (Yv Yi (C:Int))).setCell ⟨g,8,none⟩ (.slice nv (C*C) (C*C))):=
  kS
 have hW13:Wk (((w12.setCell ⟨g,6,none⟩ (Yv Yi (C:Int))).setCell ⟨g,7,none⟩ (Yv Yi (C:Int))).setCell ⟨g,8,none⟩ (.slice nv (C*C) (C*C))) g R C na au nv (R*C) cu (C*C) false:=
  ((Blk.set W12 6 (Yv Yi (C:Int))).set 7 (Yv Yi (C:Int))).set 8 (.slice nv (C*C) (C*C))
 have nNVg:blk nv≠some g:=fun e=>(by have:=lNV _ e;omega);have oN13:=(oN11.grow hG12).keep hKw2 (fun q hq _ e=>nNg (e▸hq));have oU13:=(oU11.grow hG12).keep hKw2 (fun q hq _ e=>P10.nu (e▸hq));have oNV13:=oNV.keep hKw2 (fun q hq _ e=>nNVg (e▸hq));have hKB13:=(hKB11.trans hG12.any).trans (hKw2.mono fun q _ hq e=>I);have nnA: ∀ q,blk na=some q->blk au≠some q:=fun q hq e=>(by have:=lN q hq;have:=hUlt q e;omega);have nnV: ∀ q,blk na=some q->blk nv≠some q:=fun q hq e=>(by have:=oN11.lt hq;have:=lNV q e;omega);have nnU: ∀ q,blk au=some q->blk nv≠some q:=fun q hq e=>(by have:=hUlt q hq;have:=lNV q e;omega);clear bTv11 oV11;go_wp2;exact bodyPost_end (results_none rfl _ _ _) rfl ⟨rfl,(trL m1 C R,s.2.1,trL m2 C C),⟨na,au,nv,R*C,cu,C*C,hW13,⟨oN13,oU13,oNV13,nnA,nnV,nnU⟩,nNg,P10.nu,nNVg,(fun q hq=>by have:=lN q hq;omega),P10.lu,(fun q hq=>by have:=lNV q hq;omega),P10.lg⟩,(fun _=>rfl),hKB13⟩):P:=h
theorem FJ (h:P:=by
 have hZ1:=((Grow.refl w4).alloc #[Yv Yi 0,Yv Yi 0, .slice none 0 0] 37).alloc #[Yv Yi 0,Yv Yi 0, .slice none 0 0] 37;have bR5:=(bR.grow hG4).grow hZ1;have hltR:w.heap.size+1<w4.heap.size:=(bR.grow hG4).lt;have hG5:=(hG.trans hG4).trans hZ1;obtain ⟨⟨a0,a1,a2⟩,f0,f1,f2⟩:=bR5.three;have h1:w.heap.size<=w.heap.size+1:=I
 go_wp2;exact Zb Zc rfl rfl rfl (((bR5.set 0 _).set 1 _).set 2 _) ⟨_,BL,AJ,((hG5.setCell h1 _).setCell h1 _).setCell h1 _⟩):P:=h
theorem FK (h:P:=by
 have hK3:Keep (fun q=>blk (some (⟨rb,0,none⟩:Addr))≠some q/\blk (some (⟨kb,0,none⟩:Addr))≠some q) w w3:=hKw.trans ((hG2.trans hGa).any.mono fun _ _ _=>trivial);have hnrb: ¬ (blk (some (⟨rb,0,none⟩:Addr))≠some rb/\blk (some (⟨kb,0,none⟩:Addr))≠some rb):=fun e=>e.1 rfl;have hK4:=(((hK3.setCell (p:=⟨rb,i*4,none⟩) (fun _=>hnrb) (Yv Yi (rsM rr).rows)).setCell (p:=⟨rb,i*4+1,none⟩) (fun _=>hnrb) (Yv Yi (rsM rr).cols)).setCell (p:=⟨rb,i*4+2,none⟩) (fun _=>hnrb) (.slice a3 (rsM rr).cells.length c3')).setCell (p:=⟨rb,i*4+3,none⟩) (fun _=>hnrb) (.bool rr.isSome);go_wp2_with fail;refine hK _ _ ((fun h=>(h rfl).elim)) ?_;clear hK K;refine Z8 ?_;generalize hw4:((((w3.setCell ⟨rb,i*4,none⟩ (Yv Yi (rsM rr).rows)).setCell ⟨rb,i*4+1,none⟩ (Yv Yi (rsM rr).cols)).setCell ⟨rb,i*4+2,none⟩ (.slice a3 (rsM rr).cells.length c3')).setCell ⟨rb,i*4+3,none⟩ (.bool rr.isSome))=w4 at *;clear hw4 rg0 rg1 rg2 rg3 rq0 rq1 rq2 rq3 hlrb hF3 hF2 hF bX bY dA2 rdv okv k0 kf0;have kq:=E4.knC hlti;have kg:=E4.oK.free i;simp only at kg;have hlkb:=E4.oK.lt (g:=kb) rfl;have E5:=E4.setKn (fun q hq e=>(hsep q hq).2 ξ) i true;have hK5:=hK4.setCell (p:=⟨kb,i,none⟩) (fun _ e=>e.2 rfl) (.bool true);have HI:=hid (FlI.take E5 Hlt.out hlti Hki.out HR.out Fb Hopv.out Hc.out Hk1.out Hk2.out hK5);clear E4 E5 hK4 hK5;go_wp2;go_roundw;case rel=>exact ⟨i+1,cnt+1,I,Δ,Δ,HI.out⟩
 case measure=>simp[intOf];omega):P:=h
theorem FL (h:P:=by
 obtain ⟨⟨d0,d1,d2,d3,d4,d5,d6⟩,df0⟩:=bD5.seven;go_wp2_with fail;refine (ZcL (d:=⟨Za Nm,op,Za A,Za B,zeroP⟩) (S:=fun _=>True) ⟨none,0,0,rfl,o5.rdI (fun _ _=>trivial) xM,hDok⟩ hml (He.out.tab.grow hG6)).mono ?_;rintro e w7 ⟨rfl,hG7⟩;rw[←HF.out];clear d0 d1 d2 d3 d4 d5 d6 df0;have bZ7:=bZ5.grow hG7;have bD7:=bD5.grow hG7;have o7:=o5.grow hG7;have hG8:=hG6.trans hG7;have hltD7:=bD7.lt;have hltZ7:=bZ7.lt;obtain ⟨⟨d0,d1,d2,d3,d4,d5,d6⟩,df0⟩:=bD7.seven;obtain ⟨⟨z0,z1,z2,z3,z4,z5,z6⟩,zf0⟩:=bZ7.seven;have zf1:=bZ7.free 1;have zf2:=bZ7.free 2;have zf3:=bZ7.free 3;have zf4:=bZ7.free 4;have zf5:=bZ7.free 5;have zf6:=bZ7.free 6;by_cases he:F=L
 ·have Hy:=hid (show ZcE s.data.toList=⟨Za Nm,op,Za A,Za B,zeroP⟩/\ZcU s.data.toList=true from HLL.out▸Zkt (show Zbh L=some ⟨Za Nm,op,Za A,Za B,zeroP⟩ by unfold Zbh;rw[Hc.out,if_pos ⟨Hsp.out,HF.out.symm.trans he⟩]));have q2:(F==s.toList)=true:=Az;clear he;go_wp2;have hK:Keep (fun q=>q≠w.heap.size) w7 (((((((w7.setCell ⟨w.heap.size,0,none⟩ (.string (Za Nm))).setCell ⟨w.heap.size,1,none⟩ (Yv Yi op)).setCell ⟨w.heap.size,2,none⟩ (.string (Za A))).setCell ⟨w.heap.size,3,none⟩ (.string (Za B))).setCell ⟨w.heap.size,4,none⟩ (Yv Yi 0)).setCell ⟨w.heap.size,5,none⟩ (Yv Yi 0)).setCell ⟨w.heap.size,6,none⟩ (.slice none 0 0)):=
   (((((((Keep.refl _ w7).setCell (fun _ e=>e rfl) _).setCell (fun _ e=>e rfl) _).setCell (fun _ e=>e rfl) _).setCell (fun _ e=>e rfl) _).setCell (fun _ e=>e rfl) _).setCell (fun _ e=>e rfl) _).setCell (fun _ e=>e rfl) _
  have hsk:=hK.size;exact Zb Zbd rfl rfl rfl (((((((bZ7.set 0 _).set 1 _).set 2 _).set 3 _).set 4 _).set 5 _).set 6 _) ⟨_,DH,AX,((((((hG8.setCell hle0 _).setCell hle0 _).setCell hle0 _).setCell hle0 _).setCell hle0 _).setCell hle0 _).setCell hle0 _⟩
 ·have Hno:=hid (show ZcE s.data.toList=Zgj/\ZcU s.data.toList=false from HLL.out▸ZfF (show Zbh L=none by unfold Zbh;rw[Hc.out,if_neg (fun e=>he (HF.out.trans e.2))]));have q2:(F==s.toList)=false:=Aq;clear he;go_wp2;exact Zb Zbd rfl rfl rfl (((((((bZ7.set 0 _).set 1 _).set 2 _).set 3 _).set 4 _).set 5 _).set 6 _) ⟨_,υ,AA,((((((hG8.setCell hle0 _).setCell hle0 _).setCell hle0 _).setCell hle0 _).setCell hle0 _).setCell hle0 _).setCell hle0 _⟩):P:=h
theorem FM (h:P:=by
 obtain ⟨⟨a0,a1,a2⟩,f0,f1,f2⟩:=bR1.three;obtain ⟨⟨b0,b1,b2⟩,g0,g1,g2⟩:=bR2.three;have hltA:=bR1.lt;have hltB:=bR2.lt;go_wp2
 refine Zv Zc Zc rfl rfl rfl rfl
  ((((((bR1.set 0 _).set 1 _).set 2 _).other n12 _).other n12 _).other n12 _)
  ((((((bR2.other n12.symm _).other n12.symm _).other n12.symm _).set 0 _).set 1 _).set 2 _)
  ⟨_,_,_,_,_,_,Ae,τ,(((((hG.setCell h1 _).setCell h1 _).setCell h1 _).setCell h2 _).setCell h2 _).setCell h2 _⟩):P:=h
theorem FN (h:P:=by simp[intOf];omega):P:=h
theorem FO (h:P:=by obtain ⟨⟨o0,o1⟩, -⟩:=(bO.grow hGr).two;have hltO:=(bO.grow hGr).lt;obtain ⟨⟨z0,z1⟩,zf0,zf1⟩:=(bZ.grow hGr).two;have hltZ:=(bZ.grow hGr).lt;go_wp2;exact Zb Zby rfl rfl rfl (((bZ.grow hGr).set 0 _).set 1 _) ⟨_,_,rfl,D,P,(Hend.out _ hGr).1,⟨.inl ⟨Φ,rfl,rfl,fun h=>(nU.out h).elim⟩,Φ,Φ,fun nm h=>nS.out nm _ h⟩,(Hend.out _ hGr).2⟩):P:=h
theorem FP (h:P:=by rintro e w5 ⟨rfl,hG5⟩;rw[HMB.out];clear b0 b1 b2;have hG:=(hG3.trans hG4).trans hG5;replace bA:=(bA.grow hG4).grow hG5;replace bB:=(bB.grow hG4).grow hG5;replace bZ:=(bZ.grow hG4).grow hG5;obtain ⟨⟨a0,a1,a2⟩, -⟩:=bA.three;obtain ⟨⟨b0,b1,b2⟩, -⟩:=bB.three;obtain ⟨⟨z0,z1,z2⟩,g0,g1,g2⟩:=bZ.three;go_wp2;have hle:w.heap.size<=w.heap.size+2:=I;refine Zb Zc rfl rfl rfl (((bZ.set 0 _).set 1 _).set 2 _) ⟨_,rfl,OM.zero, ?_⟩;exact ((hG.setCell hle _).setCell hle _).setCell hle _):P:=h
theorem FQ (h:P:=by obtain ⟨⟨z0,z1,z2⟩,g0,g1,g2⟩:=bZ.three;have hltZ:=bZ.lt;go_wp2;exact Zb Zc rfl rfl rfl (((bZ.set 0 _).set 1 _).set 2 _) ⟨_,Ae,τ,((hG.setCell hle _).setCell hle _).setCell hle _⟩):P:=h
theorem FR (h:P:=by
 rintro e w3 ⟨rfl,hG3⟩;replace bA:=bA.grow hG3;replace bB:=bB.grow hG3;replace hG1:=hG1.trans hG3;clear a0 a1 b0 b1 hlA hlB;obtain ⟨⟨a0,a1⟩, -⟩:=bA.two;obtain ⟨⟨b0,b1⟩, -⟩:=bB.two;have hlA:=bA.lt;have hlB:=bB.lt;cases hb:isR (u,v) with
 |false=>have Hr:=hid (show ZV (x,y) (u,v)=2 by unfold ZV;rw[Ha.out,hb];rfl);clear hb;go_wp2;go_ret;exact ⟨ZJ Hr.out.symm,hG1⟩
 |true=>
  have hxb:=ZcM.1 hb;obtain ⟨⟨p1,p2⟩,⟨p3,p4⟩, -⟩:=hxa;obtain ⟨⟨q1,q2⟩,⟨q3,q4⟩, -⟩:=hxb;simp only at p1 p2 p3 p4 q1 q2 q3 q4;have e1:=Zbk (p:=400000000) (q:=400000000) ⟨p3,p4⟩ (b:=v) ⟨I,q2⟩;have e2:=Zbk (p:=400000000) (q:=400000000) ⟨q3,q4⟩ (b:=y) ⟨I,p2⟩;obtain ⟨A,hA⟩: ∃ A,x*v=A:=⟨_,rfl⟩;obtain ⟨B,hB⟩: ∃ B,u*y=B:=⟨_,rfl⟩;have Hr:=hid (show ZV (x,y) (u,v)=if A<B then -1 else if B<A then 1 else 0 by unfold ZV;rw[Ha.out,hb, ←hA, ←hB];rfl);rw[hA] at e1;rw[hB] at e2;have w1':wrap64 (x*v)=A:=EP;have w2':wrap64 (u*y)=B:=EO;clear hA hB e1 e2 hb;by_cases h1:A<B
  ·rw[if_pos h1] at Hr;go_wp2;go_ret;exact ⟨ZJ Hr.out.symm,hG1⟩
  ·rw[if_neg h1] at Hr;by_cases h2:B<A
   ·rw[if_pos h2] at Hr;go_wp2;go_ret;exact ⟨ZJ Hr.out.symm,hG1⟩
   ·rw[if_neg h2] at Hr;go_wp2;go_ret;exact ⟨ZJ Hr.out.symm,hG1⟩):P:=h
theorem FT (h:P:=by refine ZaH [([0,1,4,5,9],some 2),([3],some 6),([7,8],some 10),([11,12,13],none)] ?_;refine ZR ?_;intro K hK;refine (Zbp R _ ι (Ht.out.grow hG.drew)).mono ?_;rintro e w3 ⟨rfl,hG3⟩;have hGa:=(Grow.refl wr).drew.trans hG3;go_wp2_with fail;refine hK _ _ (hGa) ?_;clear hK K;refine ZR ?_;intro K hK;refine (Zbp C _ ι (Ht.out.grow (hG.trans hGa))).mono ?_;rintro e w4 ⟨rfl,hG4⟩;have hGb:=hGa.trans hG4;go_wp2_with fail;refine hK _ _ (hGb) ?_;clear hK K;refine Zh ?_;rw[Hhead.out];have hj:Lib.join ((((ZeK C cells i).map Zca).map Za).map (·.data.toList)) (Za [59]).data.toList=Zfe C cells i:=(by rw[ZiJ];rfl);have hJ:=Zm6 a' i c' _ (Za [59]) w4 ((hO.grow hGb).rdS (S:=fun _=>True) fun _ _=>trivial) I (by rw[hj];omega);rw[hj] at hJ;obtain ⟨B,hB⟩:=eX (Zfe C cells i);rw[←hB] at hJ hBl Hend;have HJ:=hid hJ;clear hj hJ hO hB;refine Zu rfl (fun K hK=> ?_);go_wp2_with fail;refine HJ.out.mono ?_;rintro e w5 ⟨rfl,hG5⟩;have hGc:=hGb.trans hG5;obtain ⟨H,hH⟩:=eX (Zdi R C);rw[←hH] at hhl Hfm ⊢;clear hH;go_wp2_with fail;refine hK _ _ (hGc) ?_;clear hK K;refine Zh ?_;refine Ze ?_;go_wp2;go_ret;refine ⟨?_,hG.trans hGc⟩;rw[Hfm.out, ←Hend.out];show Ending.returned (Value.string (Za H++Za B++Za [93]))=_;rw[Zo,Zo]):P:=h
theorem FU (h:P:=by
 obtain rfl:i=R:=I;obtain ⟨⟨o0,o1,o2⟩,of0,of1,of2⟩:=bO.three;have hltO:=bO.lt;have bZr:=bZ.keep hK0 I;obtain ⟨⟨z0,z1,z2⟩,zf0,zf1,zf2⟩:=bZr.three;have hltZ:=bZr.lt;have hK9:Keep (fun q=>q≠w.heap.size+1) wr (((wr.setCell ⟨w.heap.size+1,0,none⟩ (Yv Yi ((i:Int)-1))).setCell ⟨w.heap.size+1,1,none⟩ (Yv Yi ((C:Int)-1))).setCell ⟨w.heap.size+1,2,none⟩ (.slice a2 (Zt m C p q i).length c2)):=
  kS
 have hGz:Grow w (((wr.setCell ⟨w.heap.size+1,0,none⟩ (Yv Yi ((i:Int)-1))).setCell ⟨w.heap.size+1,1,none⟩ (Yv Yi ((C:Int)-1))).setCell ⟨w.heap.size+1,2,none⟩ (.slice a2 (Zt m C p q i).length c2)):=
  hG1.keep ((hK0.mono fun g _ hg=>BK).trans (hK9.mono fun g _ hg=>EF)) fun g hg=>hg
 have hrng: ∀ x∈Zt m C p q i,I64 x:=fun x hx=>Ex;have er:((i-1:Nat):Int)=(i:Int)-1:=I;have ecl:((C-1:Nat):Int)=(C:Int)-1:=I;have HE:=hid (And.intro er ecl);have hOl: ∀ g,blk a2=some g->g<wr.heap.size:=fun g hg=>hO.lt hg;clear er ecl;go_wp2;exact Zx Zc rfl rfl rfl (((bZr.set 0 _).set 1 _).set 2 _) ⟨_,rfl,⟨a2,_,c2,by rw[HE.out.1,HE.out.2];rfl,hO.keep hK9 (fun g hg _=>BI),hrng,fun g hg=>⟨BI,by simpa using hOl g hg⟩,by show I64 ((i-1:Nat):Int);unfold I64;omega,by show I64 ((C-1:Nat):Int);unfold I64;omega⟩,hGz⟩):P:=h
theorem FV (h:P:=by have Hno:=hid (show ZcE s.data.toList=Zgj/\ZcU s.data.toList=false from HLL.out▸ZfF (show Zbh L=none by unfold Zbh;rw[Hc.out,if_neg (fun e=>ZqO e.1 (HF.out.trans e.2) hq)]));have hltZ5:=bZ5.lt;obtain ⟨⟨z0,z1,z2,z3,z4,z5,z6⟩,zf0⟩:=bZ5.seven;have zf1:=bZ5.free 1;have zf2:=bZ5.free 2;have zf3:=bZ5.free 3;have zf4:=bZ5.free 4;have zf5:=bZ5.free 5;have zf6:=bZ5.free 6;go_wp2;exact Zb Zbd rfl rfl rfl (((((((bZ5.set 0 _).set 1 _).set 2 _).set 3 _).set 4 _).set 5 _).set 6 _) ⟨_,υ,AA,((((((hG6.setCell hle0 _).setCell hle0 _).setCell hle0 _).setCell hle0 _).setCell hle0 _).setCell hle0 _).setCell hle0 _⟩):P:=h
theorem FW (h:P:=by obtain rfl:=oI ho;refine Zbu (z:= .agg #[Yv Yi 0,Yv Yi 0, .slice none 0 0]) rfl DN ?_;exact hK _ _ ((Grow.refl _).alloc _ _) (hSw.alloc _ _) ⟨wi.heap.size,rfl,hs2,Blk.new _ _ _⟩ (fun _ h=>Ω)):P:=h
theorem FX (h:P:=by
 rintro e w4 ⟨rfl,hG4⟩;rw[HB.out];replace bR1:=bR1.grow hG4;replace bR2:=bR2.grow hG4;replace bR3:=bR3.grow hG4;replace hG:=hG.trans hG4;have h1:w.heap.size<=w.heap.size+1:=I
 have h2:w.heap.size<=w.heap.size+1+1:=I
 have h3:w.heap.size<=w.heap.size+1+1+1:=I
 have n12:w.heap.size+1≠w.heap.size+1+1:=I
 have n13:w.heap.size+1≠w.heap.size+1+1+1:=I
 have n23:w.heap.size+1+1≠w.heap.size+1+1+1:=I
 obtain ⟨⟨a0,a1,a2⟩,f0,f1,f2⟩:=bR1.three;obtain ⟨⟨b0,b1,b2⟩,g0,g1,g2⟩:=bR2.three;obtain ⟨⟨c0,c1,c2⟩,k0,k1,k2⟩:=bR3.three;go_wp2
 refine ZbT Zc Zc Zc rfl rfl rfl rfl rfl
  (((((((((bR1.set 0 _).set 1 _).set 2 _).other n12 _).other n12 _).other n12 _).other n13 _).other n13 _).other n13 _)
  (((((((((bR2.other n12.symm _).other n12.symm _).other n12.symm _).set 0 _).set 1 _).set 2 _).other n23 _).other n23 _).other n23 _)
  (((((((((bR3.other n13.symm _).other n13.symm _).other n13.symm _).other n23.symm _).other n23.symm _).other n23.symm _).set 0 _).set 1 _).set 2 _) ?_
 exact ⟨rfl,((((((((hG.setCell h1 _).setCell h1 _).setCell h1 _).setCell h2 _).setCell h2 _).setCell h2 _).setCell h3 _).setCell h3 _).setCell h3 _⟩):P:=h
theorem FY (h:P:=by exact Zb Zc rfl rfl rfl (((bZn.set 0 _).set 1 _).set 2 _) ⟨_,υ,Am,((hGn.setCell hle0 _).setCell hle0 _).setCell hle0 _⟩):P:=h
theorem FZ (h:P:=by
 rintro e w3 ⟨rfl,hG3⟩;rw[HM.out];replace hb1:=hb1.grow hG3;replace hb2:=hb2.grow hG3;replace hO:=(hO.grow hG2).grow hG3;have hG:=hG2.trans hG3;have h0:=h;clear hG2 hG3 a0 a1 a2 h;obtain ⟨⟨a0,a1,a2⟩, -⟩:=hb1.three;obtain ⟨⟨c0,c1,c2⟩,f0,f1,f2⟩:=hb2.three;have hle:w.heap.size<=w.heap.size+1:=Nat.le_succ _;go_wp2;have hKs:Grow w (((w3.setCell ⟨w.heap.size+1,0,none⟩ (Yv Yi m.rows)).setCell ⟨w.heap.size+1,1,none⟩ (Yv Yi m.cols)).setCell ⟨w.heap.size+1,2,none⟩ (.slice a n c)):=((hG.setCell hle _).setCell hle _).setCell hle _;have _hKo:Keep (fun q=>q≠w.heap.size+1) w3 (((w3.setCell ⟨w.heap.size+1,0,none⟩ (Yv Yi m.rows)).setCell ⟨w.heap.size+1,1,none⟩ (Yv Yi m.cols)).setCell ⟨w.heap.size+1,2,none⟩ (.slice a n c)):=
  kS
 refine Zb Zc rfl rfl rfl (((hb2.set 0 _).set 1 _).set 2 _) ⟨_,rfl, ?_,hKs⟩;unfold okM;rw[if_pos HM.out];refine ⟨a,n,c,rfl,h0.grow hKs,hx,hF,hr,hk⟩):P:=h
theorem Ga (h:P:=by
 rintro e w2 ⟨rfl,hG2⟩;have bM2:=bM.grow hG2;obtain ⟨⟨m0,m1,m2⟩, -⟩:=bM2.three;have hlt:=bM2.lt;have hG:=hG1.trans hG2;cases hm:Zd m with
 |false=>have Hr:=hid (show ZZ m=false by unfold ZZ;rw[hm];rfl);clear hm;go_wp2;go_ret;exact ⟨Zm Hr.out.symm,hG⟩
 |true=>
  by_cases h1:m.rows=m.cols
  ·have q1:(m.rows==m.cols)=true:=AU;by_cases h2:m.rows<=6
   ·have Hr:=hid (show ZZ m=true by unfold ZZ;rw[hm,decide_eq_true h1,decide_eq_true h2];rfl);clear hm h1;go_wp2;go_ret;exact ⟨Zm Hr.out.symm,hG⟩
   ·have Hr:=hid (show ZZ m=false by unfold ZZ;rw[decide_eq_false h2];simp);clear hm h1;go_wp2;go_ret;exact ⟨Zm (by rw[Hr.out];simp;omega),hG⟩
  ·have q1:(m.rows==m.cols)=false:=(by rw[beq_eq_false_iff_ne];exact h1);have Hr:=hid (show ZZ m=false by unfold ZZ;rw[decide_eq_false h1];simp);clear hm;go_wp2;go_ret;exact ⟨Zm Hr.out.symm,hG⟩):P:=h
theorem Gb (h:P:=by
 cases hbd:Zb1 sb.1 with
 |true=>go_wp2_with fail;refine (ZT aa _ ca sb.1 _ rAb I).mono ?_;rintro e w9 ⟨rfl,hQ9⟩;rw[hbd];go_wp2;go_ret;exact ⟨false,sb,rfl,hTb.grow hQ9.grow,(hG2.any.trans hKb).trans hQ9.grow.any,(fun h=>Ω),fun _=>Hno.out⟩
 |false=>have hbu:Zb1 sb.2=true:=ZaS.2 (hMb2.resolve_left fun h=>by rw[ZaS.2 h] at hbd;cases hbd);go_wp2_with fail;refine (ZT aa _ ca sb.1 _ rAb I).mono ?_;rintro e w9 ⟨rfl,hQ9⟩;rw[hbd];have hG9:=hQ9.grow;obtain ⟨⟨b0,b1,b2⟩, -⟩:=(bUb.grow hG9).three;go_wp2_with fail;refine (ZT au _ cu sb.2 _ (rUb.grow hG9) I).mono ?_;rintro e w10 ⟨rfl,hQ10⟩;rw[hbu];go_wp2;go_ret;exact ⟨false,sb,rfl,(hTb.grow hG9).grow hQ10.grow,((hG2.any.trans hKb).trans hG9.any).trans hQ10.grow.any,(fun h=>Ω),fun _=>Hno.out⟩):P:=h
theorem Gc (h:P:=by
 obtain ⟨⟨a0,a1,a2⟩,f0,f1,f2⟩:=bR1.three;obtain ⟨⟨b0,b1,b2⟩,g0,g1,g2⟩:=bR2.three;obtain ⟨⟨c0,c1,c2⟩,k0,k1,k2⟩:=bR3.three;go_wp2
 refine ZbT Zc Zc Zc rfl rfl rfl rfl rfl
  (((((((((bR1.set 0 _).set 1 _).set 2 _).other n12 _).other n12 _).other n12 _).other n13 _).other n13 _).other n13 _)
  (((((((((bR2.other n12.symm _).other n12.symm _).other n12.symm _).set 0 _).set 1 _).set 2 _).other n23 _).other n23 _).other n23 _)
  (((((((((bR3.other n13.symm _).other n13.symm _).other n13.symm _).other n23.symm _).other n23.symm _).other n23.symm _).set 0 _).set 1 _).set 2 _) ?_
 exact ⟨((((((((hG.setCell h1 _).setCell h1 _).setCell h1 _).setCell h2 _).setCell h2 _).setCell h2 _).setCell h3 _).setCell h3 _).setCell h3 _, .inl ⟨Hn.out,rfl⟩⟩):P:=h
theorem Gd (h:P:=by rintro e w3 ⟨rfl,hG3⟩;rw[HM.out];replace hb1:=hb1.grow hG3;replace hb2:=hb2.grow hG3;replace hO:=(hO.grow hG2).grow hG3;have hG:=hG2.trans hG3;have h0:=h;clear hG2 hG3 a0 a1 a2 h;obtain ⟨⟨a0,a1,a2⟩, -⟩:=hb1.three;obtain ⟨⟨c0,c1,c2⟩,f0,f1,f2⟩:=hb2.three;have hle:w.heap.size<=w.heap.size+1:=Nat.le_succ _;go_wp2;have hKs:Grow w (((w3.setCell ⟨w.heap.size+1,0,none⟩ (Yv Yi 0)).setCell ⟨w.heap.size+1,1,none⟩ (Yv Yi 0)).setCell ⟨w.heap.size+1,2,none⟩ (.slice none 0 0)):=((hG.setCell hle _).setCell hle _).setCell hle _;refine Zb Zc rfl rfl rfl (((hb2.set 0 _).set 1 _).set 2 _) ⟨_,rfl, ?_,hKs⟩;unfold okM;rw[if_neg (by rw[HM.out];simp)];exact ⟨none,0,0,rfl,Own.nilw,(fun x hx=>AO),(fun g hg=>Ci),ES,ES⟩):P:=h
theorem Ge (h:P:=by clear hD hN;go_wp2_with fail;(first |refine (ZiA N D _ I I I).mono ?_|refine (ZlB N D _ I I I).mono ?_);rintro e w4 ⟨rfl,hG4⟩;clear p1 p2 p3 p4 q1 q2 q3 q4;replace bA:=bA.grow hG4;replace bB:=bB.grow hG4;replace bZ:=bZ.grow hG4;replace hG1:=hG1.trans hG4;clear a0 a1 b0 b1 hlA hlB;obtain ⟨⟨a0,a1⟩, -⟩:=bA.two;obtain ⟨⟨b0,b1⟩, -⟩:=bB.two;have hlA:=bA.lt;have hlB:=bB.lt;obtain ⟨⟨z0,z1⟩,f0,f1⟩:=bZ.two;have hltZ:=bZ.lt;generalize Zef N D=L at *;obtain ⟨l1,l2⟩:=L;have hK:=(hG1.setCell (p:=⟨w.heap.size+1+1,0,none⟩) ο (Yv Yi l1)).setCell (p:=⟨w.heap.size+1+1,1,none⟩) ο (Yv Yi l2);go_wp2;exact Zx Zdk rfl rfl rfl ((bZ.set 0 _).set 1 _) ⟨A7,hK⟩):P:=h
theorem Gf (h:P:=by
 rintro e w4 ⟨rfl,hG4⟩;rw[HB.out];replace bR1:=bR1.grow hG4;replace bR2:=bR2.grow hG4;replace hG:=hG.trans hG4;have h1:w.heap.size<=w.heap.size+1:=I
 have h2:w.heap.size<=w.heap.size+1+1:=I
 have n12:w.heap.size+1≠w.heap.size+1+1:=I
 obtain ⟨⟨a0,a1,a2⟩,f0,f1,f2⟩:=bR1.three;obtain ⟨⟨b0,b1,b2⟩,g0,g1,g2⟩:=bR2.three;have hltA:=bR1.lt;have hltB:=bR2.lt;go_wp2
 refine Zv Zc Zc rfl rfl rfl rfl
  ((((((bR1.set 0 _).set 1 _).set 2 _).other n12 _).other n12 _).other n12 _)
  ((((((bR2.other n12.symm _).other n12.symm _).other n12.symm _).set 0 _).set 1 _).set 2 _) ?_
 exact ⟨rfl,(((((hG.setCell h1 _).setCell h1 _).setCell h1 _).setCell h2 _).setCell h2 _).setCell h2 _⟩):P:=h
theorem Gg (h:P:=by refine Zb Zc rfl rfl rfl (((bZ.set 0 _).set 1 _).set 2 _) ⟨_,rfl,OM.zero, ?_⟩;exact ((hG.setCell hle _).setCell hle _).setCell hle _):P:=h
theorem Gh (h:P:=by
 rintro e w4 ⟨rfl,hG4⟩;rw[HB.out];replace bR1:=bR1.grow hG4;replace bR2:=bR2.grow hG4;replace hG:=hG.trans hG4;obtain ⟨⟨a0,a1,a2⟩,f0,f1,f2⟩:=bR1.three;obtain ⟨⟨b0,b1,b2⟩,g0,g1,g2⟩:=bR2.three;go_wp2;have h1:w.heap.size<=w.heap.size+1:=I
 have h2:w.heap.size<=w.heap.size+1+1:=I
 refine Zv Zc Zc rfl rfl rfl rfl ((((((bR1.set 0 _).set 1 _).set 2 _).other Θ _).other Θ _).other Θ _) ((((((bR2.other Θ _).other Θ _).other Θ _).set 0 _).set 1 _).set 2 _) ?_;exact ⟨rfl,(((((hG.setCell h1 _).setCell h1 _).setCell h1 _).setCell h2 _).setCell h2 _).setCell h2 _⟩):P:=h
theorem Gi (h:P:=by
 have hkn:k=n:=I;subst hkn;have bZr:=bZ2.keep hK nZ;obtain ⟨⟨z0,z1,z2⟩,g0,g1,g2⟩:=bZr.three;have hltZ:=bZr.lt;have hKs:Keep (fun q=>q≠w.heap.size) wr (((wr.setCell ⟨w.heap.size,0,none⟩ (Yv Yi (k:Int))).setCell ⟨w.heap.size,1,none⟩ (Yv Yi (k:Int))).setCell ⟨w.heap.size,2,none⟩ (.slice a (k*k) (k*k))):=
  kS
 go_wp2;refine Zb Zc rfl rfl rfl (((bZr.set 0 _).set 1 _).set 2 _) ⟨a,rfl,hO.keep hKs (fun q hq _ e=>by have:=hB' q hq;omega),(fun q hq=>Nat.le_of_lt (hB' q hq)), ?_⟩;exact (hG02.keep hK (fun q hq e=>by have:=hB' q e;omega)).keep hKs (fun q hq e=>I)):P:=h
theorem Gj (h:P:=by refine (ZhK (S:=S) (D:=D) (P:=P) ⟨xa,dn,xc,pa,qn,pc,rfl,hD.grow hSw,hP.grow hSw⟩ I Hcl.out).mono ?_;rintro e wi ⟨a,k,c,m,ok,rfl,r1,r2,r3,r4,r5,hG3,r6⟩;exact ⟨_,rfl,hK _ wi hG3 (hSw.trans hG3) ⟨a,k,c,m,ok,rfl,⟨r1,r2,r3,r4,r5⟩,Hrb.out.trans r6⟩ (fun _ h=>Ω)⟩):P:=h
theorem Gl (h:P:=by rintro e w3 ⟨rfl,hG3⟩;have hGa:=(Grow.refl w2).drew.trans hG3;go_wp2_with fail;refine hK _ _ (hGa) ?_;clear hK K;refine Zh ?_;refine Ze ?_;go_wp2;go_ret;exact ⟨CD,hG12.trans hGa⟩):P:=h
theorem Gm (h:P:=by have hB:=(Blk.newAt w #[Yv Yi (r:Int),Yv Yi (c:Int), .slice (some ⟨w.heap.size+1,0,none⟩) (r*c) (r*c)] 37 rfl).alloc (.cells (madeCells #[Yv Yi 0] (r*c)) 3);have hO:=Own.freshAt (w:=w.alloc (.cells #[Yv Yi (r:Int),Yv Yi (c:Int), .slice (some ⟨w.heap.size+1,0,none⟩) (r*c) (r*c)] 37)) (e:=3) (sz:=1) (cs:=madeCells #[Yv Yi 0] (r*c)) (n:=r*c) (g:=w.heap.size+1) Θ Γ Cr;rw[toList_madeCells_one] at hO;refine Zx Zc rfl rfl rfl hB ⟨_,rfl,by simpa [ints] using hO,fun g hg=>κ,((Grow.refl w).alloc _ _).alloc _ _⟩):P:=h
theorem Gn (h:P:=by
 have:=hv w' hw';unfold Oper.quietAt at this;cases hrun:(execOp a.eval o).run P w' with
 |halt x u=>rw[hrun] at this;simp[Oper.quietUpon] at this
 |ok r u=>obtain ⟨v',rfl⟩:=Op.plain_run hp hrun;rw[hrun] at this;simp only[Oper.quietUpon] at this;rw[this.1,this.2]):P:=h
theorem Gp (h:P:=by
 have u1:=Z6 (i:=i) (c:=C) I I;have u3:IntKind.i64.wrap (((i:Int)+1)*C)=((i:Int)+1)*C:=Es
 have r:=T_ints.atLH (a:=a) (n:=n) (cap:=cp) (l:=i*C) (k:=i*C+C) (i:=(i:Int)*C) (j:=((i:Int)+1)*C) Θ (by rw[Int.add_mul];simp) I I;have rs:=h.sub (l:=i*C) (k:=i*C+C) I I;rw[show i*C+C-i*C=C by omega] at r rs;have Hl:=hid hl;have Hnl:=hid hnl;clear hl hnl hri;have hG:=(Grow.refl w).alloc #[Yv Yi (R:Int),Yv Yi (C:Int), .slice a n cp] 37;go_enter Tryz.func33,Tryz.ntmps33;go_wp2;go_ret;exact ⟨_,_,rfl,rs.grow hG,hG⟩):P:=h
theorem Gq (h:P:=by have hst:=h.ev;obtain ⟨b,rfl,hb,hc,hf⟩:=h.ev.stAt hi;rw[hsi] at hc;obtain ⟨⟨g0,g1,g2,g3⟩, -⟩:=h.ev.bg.four';have hltg:=h.ev.bg.lt;have hlen:=h.len;go_enter Tryz.func106,Tryz.ntmps106;go_wp2;go_ret;exact h.stay (Grow.refl w) I (by rw[hsi];rfl)):P:=h
theorem Gr (h:P:=by clear hall;go_wp2;exact Zb Zbd rfl rfl rfl (((((((bZr.set 0 _).set 1 _).set 2 _).set 3 _).set 4 _).set 5 _).set 6 _) ⟨_,υ,AA,((((((hGr.setCell hle0 _).setCell hle0 _).setCell hle0 _).setCell hle0 _).setCell hle0 _).setCell hle0 _).setCell hle0 _⟩):P:=h
theorem Gs (h:P:=by have wf:=P8.wk.g;obtain ⟨_,_,_,_,_,_,c9,_,_,_,_,_,_,f9⟩:=wf;have hg8:g<w8.heap.size:=Blk.lt P8.wk;go_wp2;exact bodyPost_ret (results_none rfl _ _ _) rfl ⟨rfl,s,⟨aa,au,ar,ca,cu,cr,P8.wk.spoil,P8.th.keep (T:=fun q=>q≠g) ((Keep.refl _ w8).setCell (p:=⟨g,9,none⟩) (fun _ e=>e rfl) _) (fun q hq e=>P8.na (e▸hq)) (fun q hq e=>P8.nu (e▸hq)) (fun q hq e=>P8.nr (e▸hq)),P8.na,P8.nu,P8.nr,P8.la,P8.lu,P8.lr,P8.lg⟩,(fun h=>Ω),hKB8.setCell (p:=⟨g,9,none⟩) (fun _ e=>Eg) _⟩):P:=h
theorem Gt (h:P:=by have HE:=hid (show res=none by rw[HO.out,hok];rfl);have hV:=VRs.zero (w:=w3) (S:=fun q=>w2.heap.size<=q)):P:=h
theorem Gu (h:P:=by
 refine (Zc3 _ _ _ (ZaJ l d) _ (hS5.rdD (S:=fun _=>True) fun _ _=>trivial) I hclS).mono ?_;rintro e w6 ⟨rfl,hG6⟩;have hsz:=(hGW.trans hG6).size;cases hs5:Zaa (ZaJ l d) with
 |false=>
  have HN:=hid (ZiG (l:=l) (d:=d) (by rw[hs5];simp));have H5:=hid hs5;clear hs5;go_wp2
  go_ret2
  exact ⟨_,Ah,⟨_,_,_,rfl,Cg⟩,(hGW.trans hG6).alloc _ _⟩
 |true=>
  have HY:=hid (Zlc HS.out hs5);have H5:=hid hs5;clear hs5;go_wp2
  go_ret2
  exact ⟨_,by rw[HY.out];rfl,⟨_,_,_,rfl,Er⟩,hGW.trans hG6⟩):P:=h
theorem Gv (h:P:=by
 rcases hA.new with e|⟨g,e,hge⟩
 ·rw[e];exact hne
 ·rw[e];intro e2;have:=Option.some.inj e2;omega):P:=h
theorem Gw (h:P:=by have wf:=P9.wk.g;obtain ⟨_,_,_,_,_,_,c9,_,_,_,_,_,_,f9⟩:=wf;go_wp2;exact bodyPost_ret (results_none rfl _ _ _) rfl ⟨rfl,s,⟨aa,au,ar,ca,cu,cr,P9.wk.spoil,P9.th.keep (T:=fun q=>q≠g) ((Keep.refl _ w9).setCell (p:=⟨g,9,none⟩) (fun _ e=>e rfl) _) (fun q hq e=>P9.na (e▸hq)) (fun q hq e=>P9.nu (e▸hq)) (fun q hq e=>P9.nr (e▸hq)),P9.na,P9.nu,P9.nr,P9.la,P9.lu,P9.lr,P9.lg⟩,(fun h=>Ω),hKB9.setCell (p:=⟨g,9,none⟩) (fun _ e=>Eg) _⟩):P:=h
theorem Gx (h:P:=by refine (Zdu (vA.grow hSw) (d1.rd (S:=fun _=>True) fun _ _=>trivial) hbA hbX).mono ?_;rintro e wi ⟨y,rfl,hO,hG3⟩;exact ⟨_,rfl,hK _ wi hG3 (hSw.trans hG3) ⟨y,rfl,hO.weak fun b _ hb=>Nat.le_trans hs2 hb.1⟩ (fun _ h=>Ω)⟩):P:=h
theorem Gy (h:P:=by obtain ⟨g,h1,h2,h3⟩:=h;exact ⟨g,h1,h2,h3.grow hG⟩):P:=h
theorem Gz (h:P:=by
 cases a with
 |none=>have:=hO.nil rfl;have:=hO.le;omega
 |some q=>exact ⟨q.block,Ay⟩):P:=h
theorem G5 (h:P:=by
 have hvl:vs.length=i:=by have:=h.oM.len;omega
 obtain ⟨b,off,xs,b1,c1,e,hx, -,hb,c0,hr⟩:=(show RdTT w (fun _=>True) ma i mc mu from ⟨⟨vs,I,h.oM.row fun _ _=>trivial,h.rr.weak fun _ _ _=>trivial⟩,hv⟩).at hj;have e2:mu.getD j []=xs:=Dx
 rw[e2] at hk ⊢;obtain ⟨b2,o2,r,rfl,hr2, -,hb2,d0,d1⟩:=hr.at hk;have e3:rAt xs k=r:=Fj
 rw[e3];exact ⟨b,off,b2,o2,c1,e,hb,c0,hb2,d0,d1⟩):P:=h
theorem G6 (h:P:=by rintro e w' ⟨rfl,hT,hK⟩;exact ⟨rfl,⟨hT.oa,hT.ou,h.ov.keep hK (fun g hg _=>⟨fun e=>h.nav g e hg,fun e=>h.nuv g e hg⟩),h.nau,h.nav,h.nuv⟩,hK.mono fun q _ hq=>⟨hq.1,hq.2.1⟩⟩):P:=h
theorem G7 (h:P:=by
 go_region;go_wp2;go_roundw;case rel=>exact ⟨hGr.drew,y,x.tmod y,rfl,rfl,hy,hm,Hs.out⟩
 case measure=>simp only[intOf];omega):P:=h
theorem G8 (h:P:=by obtain ⟨⟨o0,o1⟩, -⟩:=(bO.grow hGz).two;have hltO:=(bO.grow hGz).lt;obtain ⟨⟨z0,z1⟩,zf0,zf1⟩:=(bZ.grow hGz).two;have hltZ:=(bZ.grow hGz).lt;go_wp2;exact Zb Zby rfl rfl rfl (((bZ.grow hGz).set 0 _).set 1 _) ⟨_,_,rfl,D,P,(Hend.out _ hGz).1,⟨.inl ⟨Φ,rfl,rfl,fun h=>(nU.out h).elim⟩,Φ,Φ,fun nm h=>nS.out nm _ h⟩,(Hend.out _ hGz).2⟩):P:=h
theorem G9 (h:P:=by exact bodyPost_end (results_none rfl _ _ _) rfl ⟨rfl,hO,(hG2.any).on hK (fun q hq hne=>hne)⟩):P:=h
theorem GA (h:P:=by
 show ((Zas g N i).bind _)=none;rw[HI.out,Option.bind_some];by_cases hji:j=i
 ·have:=HJ.out;rw[hji] at this;have hr2:=Hr.out;rw[hji] at hr2;show ((ZbB g N mu s' i i).bind _)=none;rw[this,Option.bind_some,hr2,hq];rfl
 ·have e3:=Zjc e1 (i-(j+1));rw[show j+1+(i-(j+1))=i by omega] at e3;show ((ZbB g N mu s' i i).bind _)=none;rw[e3];rfl):P:=h
theorem GD (h:P:=by rintro e w' ⟨rfl,h1,h2,h4⟩;exact ⟨rfl,⟨aa,au,ar,ca,cu,cr,h1,⟨h2.oa,h2.ou,h.th.ov.keep h4 (fun q hq _=>⟨fun e=>h.th.nav q e hq,fun e=>h.th.nuv q e hq,fun e=>h.nr Fl⟩),h.th.nau,h.th.nav,h.th.nuv⟩,h.na,h.nu,h.nr,h.la,h.lu,h.lr,h.lg⟩,h4.mono fun q _ hq=>⟨fun e=>CT,fun e=>CS,fun e=>by have:=h.lg;omega⟩⟩):P:=h
theorem GG (h:P:=by go_enter Tryz.func228,Tryz.ntmps228;go_wp2_with fail;refine (Z0 _ _).mono ?_;rintro e _ ⟨rfl,rfl⟩;rw[Ht.out];go_wp2;go_ret;exact ⟨rfl,(Grow.refl w).alloc _ _⟩):P:=h
theorem GH (h:P:=by go_ret;exact ⟨ZJ Hr.out.symm,hG1⟩):P:=h
theorem GI (h:P:=by exact ⟨_,_,_,_,_,_,_,_,_,_,A9,(fun s hs=>Ak),hG⟩):P:=h
theorem GJ (h:P:=by obtain ⟨r,h1,h2⟩:=h;exact ⟨r,h1,h2.grow hG⟩):P:=h
theorem GK (h:P:=by have bZf:=bZ.keep hK5 I;have hGf:Grow w w5:=hG1.keep hK5 fun q hq=>I;obtain ⟨⟨a0,a1⟩,f0,f1⟩:=bZf.two;have hltZ:=bZf.lt;have h1:w.heap.size<=w.heap.size+1:=I;go_wp2;exact Zb ZnB rfl rfl rfl ((bZf.set 0 _).set 1 _) ⟨_,_,_,_,_,_,Ah,fun o ho=>Dn,(hGf.setCell h1 _).setCell h1 _⟩):P:=h
theorem GL (h:P:=by go_ret;exact ⟨Zm Hr.out.symm,hG⟩):P:=h
theorem GM (h:P:=by
 rintro e w' ⟨rfl,s',h1,h2,h3⟩;rw[Zh0 hi hp,Zh0 hi hp] at h1 h2;rw[Zjf hi hp,Zjf hi hp] at h2;refine ⟨rfl,_,s',h1, ?_,h3⟩;unfold To3 Zbn;cases hb:(Zbv s.1 C R i p t&&Zbv s.2.2 C C i p t) with
 |true=>exact .inl ⟨rfl,by rw[if_pos rfl,h2 hb]⟩
 |false=>exact .inr ⟨rfl,Eh⟩):P:=h
theorem GN (h:P:=by refine (ZhB _ _ _ xs _ (rX.grow hSw) I).mono ?_;rintro e wi ⟨y,rfl,hO,hG3⟩;exact ⟨y,rfl,hK y wi hG3 (hSw.trans hG3) A8 (fun _ h=>Ω)⟩):P:=h
theorem GP (h:P:=by rw[hr,if_pos rfl] at Hl;have hK:=((hG2.trans (hG3.trans hG4)).setCell (p:=⟨w.heap.size,0,none⟩) (Nat.le_refl _) (Yv Yi X)).setCell (p:=⟨w.heap.size,1,none⟩) (Nat.le_refl _) (Yv Yi Y);clear hr;go_wp2;exact Zx Zdk rfl rfl rfl ((bZ4.set 0 _).set 1 _) ⟨F2,hK⟩):P:=h
theorem GQ (h:P:=by rw[hr,if_neg Θ] at Hl;have hK:=((hG2.trans (hG3.trans hG4)).setCell (p:=⟨w.heap.size,0,none⟩) (Nat.le_refl _) (Yv Yi 0)).setCell (p:=⟨w.heap.size,1,none⟩) (Nat.le_refl _) (Yv Yi 0);clear hr;go_wp2;exact Zx Zdk rfl rfl rfl ((bZ4.set 0 _).set 1 _) ⟨F2,hK⟩):P:=h
theorem GR (h:P:=by
 clear hv;have Hno:=hid (ZkC (ZnV (s:=s.data.toList) (fun v e=>by rw[hat] at e;cases e)));clear hat;go_enter Tryz.func63,Tryz.ntmps63;go_wp2_with fail;refine hA.mono ?_;rintro e w' ⟨N,rfl, -, -,hB⟩;have hG:=Below.toGrow hB;clear hB;go_wp2
 go_ret2
 exact ⟨CW,hG⟩):P:=h
theorem GS (h:P:=by
 rw[←hrr] at hr HO ⊢;clear hrr;cases rr
 case' none=>have HE:=hid (show res=none from HO.out);have hV:=VRs.zero (w:=w3) (S:=fun q=>w2.heap.size<=q)
 case' some r=>
  have HE:=hid (show res=some r from HO.out);have hV:=VM.vrs (hr r rfl)
 all_goals clear HO hr):P:=h
theorem GU (h:P:=by rw[hok];rintro e w2 ⟨rfl,hG2⟩;clear hok;go_wp2;go_ret;exact ⟨Ce,hG1.trans hG2⟩):P:=h
theorem GV (h:P:=by go_enter Tryz.func31,Tryz.ntmps31;go_wp2;go_ret;exact ⟨AZ,hG⟩):P:=h
theorem GW (h:P:=by have h1:=(((h.oR.set (i*4) (Yv Yi (rsM r).rows)).set (i*4+1) (Yv Yi (rsM r).cols)).set (i*4+2) (.slice a (rsM r).cells.length c)).set (i*4+3) (.bool r.isSome);rw[ZjS (by simp[rsL,svL]) (by simp[rsL];exact hi),Zpt,Zps] at h1;exact h1):P:=h
theorem GX (h:P:=by go_enter Tryz.func84,Tryz.ntmps84;go_wp2_with fail;refine (ZaU _ _ _ _).mono ?_;rintro e w' ⟨rfl,rfl⟩;rw[I1.out];go_wp2_with fail;refine (ZaU _ _ _ _).mono ?_;rintro e w' ⟨rfl,rfl⟩;rw[I2.out];go_wp2;go_ret;exact ⟨AZ,hG⟩):P:=h
theorem GY (h:P:=by subst h1;go_enter Tryz.func157,Tryz.ntmps157;go_wp2;rw[←Hw1.out];go_ret;exact ⟨_,2,rfl,Own.freshAt (cs:= #[.string d.a, .string d.b]) (sz:=1) (n:=2) (e:=9) (g:=w.heap.size+1) Hsz.out Γ rfl,(fun g hg=>Cy),hG.alloc _ _⟩):P:=h
theorem GZ (h:P:=by have HN:=hid (show Zba n k o S=some (S,k+1) from HS.out);go_wp2;go_ret;refine ⟨Ah, ?_,hcase _⟩;intro r hr;rw[HN.out] at hr;obtain rfl:=Option.some.inj hr;exact ⟨(P2.beside hkg hka hku hkr _).s,hb2.set 0 _⟩):P:=h
theorem Ho (h:P:=by
 rw[List.all_eq_true];constructor
 ·intro h i h1 h2;have:=h (i-(t+1)) (List.mem_range.2 I);rw[show t+1+(i-(t+1))=i by omega] at this;simpa using this
 ·intro h d hd;have:=List.mem_range.1 hd;simpa using h (t+1+d) I I):P:=h
theorem Hw (h:P:=by go_ret;exact ⟨_,Nat.le_refl _,rfl,⟨a,n,cap,bs,0,x,Blk.new _ _ _,((h.weak (T:=fun q=>q<wr.heap.size) fun q hq _=>hq).grow ((Grow.refl wr).alloc _ _)),Nat.zero_le _,hn,ι⟩,(Grow.refl wr).alloc _ _⟩):P:=h
theorem H6 (h:P:=by rw[Hw1.out] at a0 a1 a2 a3 b0 b1 b2 b3 hltA hltB d1 hltD bZ hG;clear hres2 bA bB hw1;go_enter Tryz.func50,Tryz.ntmps50;go_wp2;exact Zx Zk4 rfl rfl rfl bZ ⟨_,rfl,by rw[HE.out];exact VRs.zero,hG⟩):P:=h
theorem H7 (h:P:=by obtain rfl:=oI ho;refine Zbu (z:= .agg #[Yv Yi 0,Yv Yi 0, .slice none 0 0]) rfl DN ?_;exact hK _ _ ((Grow.refl _).alloc _ _) (hSw.alloc _ _) ⟨wq.heap.size,rfl,hsq,Blk.new _ _ _⟩ (fun _ h=>Ω)):P:=h
theorem H8 (h:P:=by
 obtain ⟨b,off,r,e,hr, -,hb,c0,c1⟩:=(show RdT w (fun _=>True) ra row.length rc row from ⟨h.oR.row fun _ _=>trivial,rfl⟩).at hk;have e2:rAt row k=r:=AB
 rw[e2];exact ⟨b,off,e,hb,c0,c1⟩):P:=h
theorem H9 (h:P:=by obtain ⟨w3,hw3,hG3, -, -, -, -⟩:=al3 w2 #[Yv Yi 0,Yv Yi 0, .slice none 0 0] 37 #[Yv Yi 0,Yv Yi 0, .slice none 0 0] 37 #[Yv Yi 0,Yv Yi 0, .slice none 0 0] 37;have Hw3:=hid hw3;clear hw3):P:=h
theorem Ia (h:P:=by have H:=hid h;have E:=hid e;clear h e;go_enter Tryz.func197,Tryz.ntmps197;go_wp2_with fail;refine (ZaU _ _ _ _).mono ?_;rintro e w' ⟨rfl,rfl⟩;rw[H.out];go_wp2;go_ret;exact ⟨BB,rfl⟩):P:=h
theorem Ib (h:P:=by
 obtain ⟨b,off,r,e,hr, -,hb,c0,c1⟩:=(show RdT w (fun _=>True) sa s.length sc s from ⟨h.oS.row fun _ _=>trivial,rfl⟩).at hk;have e2:rAt s k=r:=AB
 rw[e2];exact ⟨b,off,e,hb,c0,c1⟩):P:=h
theorem Ic (h:P:=by
 rw[List.all_eq_true];constructor
 ·intro h k hk;have:=h k (List.mem_range.2 hk)
  rwa [Bool.and_eq_true] at this
 ·intro h k hk;have:=h k (List.mem_range.1 hk)
  rwa [Bool.and_eq_true]):P:=h
theorem Ie (h:P:=by
 go_ret2
 exact ⟨_,0,0,[],false,rfl,(fun h=>Ω),hGb.alloc _ _⟩):P:=h
theorem Ig (h:P:=by simp[Builtin.append_,run_underlying ht,sizeOf,typeInfo,zeroValue,hi,hz,Builtin.lenOf,hroom,hs2,h48,Question.forced,hold,hf',newRow,grownCap];rw[←Array.append_assoc];simp):P:=h
theorem Ih (h:P:=by obtain ⟨a,n,c,rfl,h⟩:=h;exact ⟨a,n,c,rfl,h.keep hk hST⟩):P:=h
theorem Ii (h:P:=by have hkE2:k=C:=I;rw[hkE2, ←HE.out] at hO2;go_wp2;exact bodyPost_end (results_none rfl _ _ _) rfl ⟨rfl,hO2,(hG.any.trans hK).mono fun q _ hq e=>hq (by simpa using e)⟩):P:=h
theorem Ij (h:P:=by rintro e w4 ⟨rfl,hG4⟩;exact ⟨_,rfl,hK _ w4 hG4 (hSw.trans hG4) rfl (fun _ h=>Ω)⟩):P:=h
theorem Ik (h:P:=by exact ⟨_,_,_,_,_,_,_,_,_,_,_,_,_,_,_,A9,(fun s hs=>Ak),hG⟩):P:=h
theorem Il (h:P:=by obtain ⟨x,y,a,n,c,h1,h2⟩:=h;exact ⟨x,y,a,n,c,h1,fun m hm=>(h2 m hm).grow hG⟩):P:=h
theorem Im (h:P:=by go_ret;have:k=n:=I;subst this;have hy:=Ziv (l:=l) fun j hj=>He.out j (by rw[Hl.out] at hj;exact hj);exact ⟨Zm (by rw[hy,Hl.out,decide_eq_decide];omega),hG⟩):P:=h
theorem Io (h:P:=by unfold Oper.quietAt execOp;simp[ho,hx,Instr.loadAt,Instr.sureAddr,h,Oper.quietUpon]):P:=h
theorem Ip (h:P:=by have:(⟨q,off,none⟩:Addr).add j=⟨q,off+j,none⟩:=AV;rw[this];exact hc j u hj):P:=h
theorem Iq (h:P:=by obtain ⟨⟨vs,h1,h2⟩,hl,ho,h3⟩:=h;exact ⟨⟨vs,h1.keep hk (fun g hg hlt=>hT g hlt (h3 g hg)),h2.keep hk (fun b hb hF _=>hT b hb hF)⟩,hl,ho,h3⟩):P:=h
theorem Ir (h:P:=by
 go_meet
 exact ⟨hK,true,s,hW,hT, .inr ⟨rfl,Hn.out⟩⟩):P:=h
theorem Iu (h:P:=by refine ⟨_,_,_,_,_,_,_,_,_,_,A9,fun s' hs=> ?_,hG⟩;rw[hn] at hs;obtain rfl:=Option.some.inj hs;exact ⟨rfl,rfl,h2.weak fun _ _ _=>trivial⟩):P:=h
theorem Iw (h:P:=by
 refine ⟨k+1,I,Δ,fun z hz=> ?_⟩;rw[ZH Hx.out,List.mem_append,List.mem_singleton] at hz;rcases hz with hz|rfl
 ·exact He.out z hz
 ·exact H0.out):P:=h
theorem Iy (h:P:=by
 have e1:ZQ st i v n=st n:=DI;rw[e1];by_cases h:i<n
 ·have h2:i<n+1:=I;simp[h,h2] at ih ⊢;omega
 ·have h2: ¬ i<n+1:=I;simp[h,h2] at ih ⊢;omega):P:=h
theorem Iz (h:P:=by
 rcases hA4.new with e|⟨g',e,hge⟩
 ·rw[e] at hg;exact hlo g hg
 ·rw[e] at hg;obtain rfl:=Option.some.inj hg;have:=hGa.size;simp at hge;omega):P:=h
theorem I4 (h:P:=by have:(i+1)*C<=R*C:=Nat.mul_le_mul_right _ hi;rw[Nat.add_mul] at this;omega):P:=h
theorem I5 (h:P:=by simp only[Option.some.injEq,Obj.cells.injEq] at this;exact hne this.2.1):P:=h
theorem I6 (h:P:=by
 unfold dtV I64;split
 ·cases h:Zad m.rows.toNat m.cells with
  |none=>simp
  |some d=>have:=Zb0 h;simp only[Option.getD_some];omega
 ·omega):P:=h
theorem I7 (h:P:=by rw[if_neg hw] at h;exact wpAnyH_take (v:=undef) hl.1 hsel hf hr (fun c a w hh=>Dr) (.inr ⟨by simpa using hw,rfl⟩) hS (ih _ h)):P:=h
theorem I8 (h:P:=by rintro e _ ⟨rfl,rfl⟩;rw[HE.out];go_wp2;go_ret;exact ⟨rfl,hGr⟩):P:=h
theorem I9 (h:P:=by
 have hlt:k<o.1.length:=I
 have e:o.1[k]? =some o.1[k]:=List.getElem?_eq_getElem hlt;rw[List.getD_eq_getElem?_getD,e];exact h3 _ _ e):P:=h
theorem IA (h:P:=by simp only[List.length_append,List.length_cons,List.length_nil];omega):P:=h
theorem IB (h:P:=by go_enter Tryz.func111,Tryz.ntmps111;go_wp2;go_ret;exact ⟨AZ,rfl⟩):P:=h
theorem IC (h:P:=by
 have Hr:=hid (show ZdS m=false/\dtV m=0 by unfold ZdS dtV;rw[hm];exact ⟨rfl,rfl⟩);clear hm;go_wp2
 go_ret2
 exact ⟨BC,hG⟩):P:=h
theorem IE (h:P:=by
 rcases Nat.lt_or_ge i listed.size with h'|h'
 ·simp[h'] at h0 h1;rw[h0] at h1;cases h1
 ·simp[Array.getElem?_eq_none h'] at h1):P:=h
theorem IG (h:P:=by go_ret;exact ⟨BB,rfl⟩):P:=h
theorem II (h:P:=by rintro e w' ⟨rfl,s',h1,h2,h3⟩;have e1:=h2 rfl;rw[Zld hi hp hip,Zld hi hp hip] at e1;subst e1;exact ⟨rfl,h1,h3⟩):P:=h
theorem IJ (h:P:=by
 go_ret2
 exact ⟨_,0,0,[],false,rfl,(fun h=>Ω),hGa.alloc _ _⟩):P:=h
theorem IK (h:P:=by
 go_roundw;case rel=>exact ⟨hK,p,true,s2,rfl,hW,hT, .inr ⟨rfl,Hgn.out⟩⟩
 case measure=>rw[Hb2.out,Hbd.out];simp):P:=h
theorem IL (h:P:=by obtain ⟨b,c,h1,h2,h3,h4⟩:=h.each i xs hi;exact ⟨b,c,h1,h2.rdI (fun q hq=>hS q (h4 q hq).1 (h4 q hq).2) h3⟩):P:=h
theorem IM (h:P:=by
 refine ⟨hG,k+1,I,Δ,fun d hd hne=> ?_⟩;by_cases e:d=k
 ·subst e;exact (hne Hkp.out).elim
 ·exact Hall.out d I hne):P:=h
theorem IP (h:P:=by
 refine ⟨hG.trans hG3,k+1,I,Δ,fun d hd hne=> ?_⟩;by_cases e:d=k
 ·subst e;exact Hx0.out
 ·exact Hall.out d I hne):P:=h
theorem IQ (h:P:=by obtain ⟨a,n,c,rfl,h⟩:=h;exact ⟨a,n,c,rfl,h.weak hST⟩):P:=h
theorem IR (h:P:=by exact Zx Zdk rfl rfl rfl ((bZ.set 0 _).set 1 _) ⟨A7,hK⟩):P:=h
theorem IU (h:P:=by go_ret;exact ⟨Zm (ZfU hlt I).symm,rfl⟩):P:=h
theorem IV (h:P:=by simp only[List.size_toArray,List.length_append,List.length_take,List.length_drop,Array.length_toList];omega):P:=h
theorem IW (h:P:=by
 unfold Zgw;constructor
 ·rintro ⟨h1,h2,h3⟩;exact ⟨h1,h2,I⟩
 ·rintro ⟨h1,h2,h3⟩;exact ⟨h1,h2,I⟩):P:=h
theorem IX (h:P:=by
 refine ⟨b,off,rfl,hS,fun j c hj=>hc j c ?_⟩;rw[List.getElem?_take] at hj;split at hj
 ·exact hj
 ·cases hj):P:=h
theorem IY (h:P:=by
 rcases Nat.eq_zero_or_pos (i-xss.length) with h0|h0
 ·exact h0
 ·rw[List.getElem?_eq_none Ψ] at hi;cases hi):P:=h
theorem IZ (h:P:=by simp only[Array.toList_append,List.append_assoc];rw[←List.append_assoc, ←hlen];exact List.take_left):P:=h
theorem Ja (h:P:=by
 rw[ZH Hx.out,List.mem_append,List.mem_singleton] at hz;rcases hz with hz|rfl
 ·exact He.out z hz
 ·exact hd):P:=h
theorem Jb (h:P:=by clear he h3 h4 h5;go_enter Tryz.func323,Tryz.ntmps323;go_wp2;go_ret;exact ⟨ZJ He.out,Grow.refl _⟩):P:=h
theorem Jc (h:P:=by refine ZmW hd1.1 ?_;refine Ze ?_;go_wp2;go_ret;exact ⟨Zm (Zgo hkl.out HF.out).symm,hG.trans hGx⟩):P:=h
theorem Jd (h:P:=by obtain ⟨⟨ss,h0,h1,h2⟩,hl,ho⟩:=h;exact ⟨⟨ss,h0,h1.keep hk hST,h2.keep hk hST⟩,hl,ho⟩):P:=h
theorem Je (h:P:=by exact ⟨rfl,rfl⟩):P:=h
theorem Jf (h:P:=by rw[←hw7];rw[←hot] at hw7;clear hot):P:=h
theorem Jg (h:P:=by
 rcases hw with rfl|⟨t,rfl⟩
 ·exact Grow.refl _
 ·exact Below.toGrow (Lib.bytesWorld_below w _ t)):P:=h
theorem Jh (h:P:=by rintro e w1 ⟨rfl,hG1⟩;replace hG0:=hG0.trans hG1):P:=h
theorem Ji (h:P:=by simpa using this):P:=h
theorem Jj (h:P:=by go_enter Tryz.func49,Tryz.ntmps49;go_wp2;all_goals (go_ret;exact ⟨Zm (by simp[*]),rfl⟩)):P:=h
theorem Jk (h:P:=by rw[hn] at hs;obtain rfl:=Option.some.inj hs;exact ⟨aa,_,ca,rfl,h1,Zp h1c,h1b,ir,ic⟩):P:=h
theorem Jl (h:P:=by unfold Int.gcd;rw[Int.natAbs_tmod,Nat.gcd_comm b.natAbs, ←Nat.gcd_rec,Nat.gcd_comm]):P:=h
theorem Jm (h:P:=by refine ⟨⟨_,_,congrArg Value.string (Zo _ _),rfl,Htq.out.1,Hst.out⟩,Htq.out.2⟩):P:=h
theorem Jn (h:P:=by
 go_ret2
 exact ⟨BC,hG.trans hG3⟩):P:=h
theorem Jo (h:P:=by go_enter Tryz.func240,Tryz.ntmps240;go_wp2;rw[←Hw3.out];go_ret;exact ⟨Ce,hG3⟩):P:=h
theorem Jp (h:P:=by
 cases ra with
 |none=>have:=hO.nil rfl;have:=hO.le;omega
 |some q=>exact ⟨q.block,Ay⟩):P:=h
theorem Jq (h:P:=by rintro e w3 ⟨rfl,hG3⟩;go_wp2;go_ret;exact ⟨Zm A7,(hG.trans hGr).trans hG3⟩):P:=h
theorem Jr (h:P:=by rw[show (svL sv n)[j]? =some (sv j) from Zar sv hjn] at h1;exact ⟨b,c',h1,h2⟩):P:=h
theorem Js (h:P:=by go_ret;exact ⟨false,s',rfl,hTo,(hG2.any.trans hKo),(fun h=>Ω),fun _=>HN.out⟩):P:=h
theorem Jt (h:P:=by rintro e w3 ⟨rfl,hG3⟩;go_wp2;go_ret;exact ⟨ZJ Hr.out.symm,hG1.trans hG3⟩):P:=h
theorem Ju (h:P:=by rintro e w' ⟨rfl,s',h1,h2,h3,h4⟩;rw[h3 rfl] at h2;exact ⟨rfl,h1,h2,h4⟩):P:=h
theorem Jv (h:P:=by
 unfold Zah;by_cases e:j=i
 ·rw[if_pos e];exact hok
 ·rw[if_neg e];exact h.ok j hj):P:=h
theorem Jw (h:P:=by rw[hn] at hs;obtain rfl:=Option.some.inj hs;exact ⟨aa,_,ca,rfl,h1,ir,ic⟩):P:=h
theorem Jy (h:P:=by have hkC:k=C:=I;subst hkC;go_wp2;go_ret;exact ⟨rfl,hO,hG24.any.trans hK⟩):P:=h
theorem Jz (h:P:=by rw[h4.2];simp only;rw[Zbt h1.la hi htC,if_neg (fun e=>hit e.symm)];exact h3):P:=h
theorem J2 (h:P:=by go_ret;refine ⟨Zm ?_,rfl⟩;rw[Bool.eq_iff_iff,Zcx];simp[this];try omega):P:=h
theorem J3 (h:P:=by unfold Zdg;rw[List.range_succ,List.map_append,List.filter_append];simp[h]):P:=h
theorem J4 (h:P:=by simp[results,h,hp',hq',hr',asAddr,hT.load hb,hT'.load hb',hT''.load hb'']):P:=h
theorem J5 (h:P:=by obtain ⟨a,n,c,m,ok,e,h1,h2⟩:=h;exact ⟨a,n,c,m,ok,e,h1.grow hG,h2⟩):P:=h
theorem J6 (h:P:=by have Hz:=hid hz;clear hz;go_wp2;go_ret;exact ⟨Zm (by rw[Hz.out]),rfl⟩):P:=h
theorem J7 (h:P:=by go_ret;exact ⟨true,s,rfl,hT,hG2.any.trans hK,fun _=>Hn.out,fun h=>Ω⟩):P:=h
theorem J8 (h:P:=by have h1:=Int.natAbs_tmod a b;have h2:=Nat.mod_le a.natAbs b.natAbs;omega):P:=h
theorem J9 (h:P:=by go_enter Tryz.func180,Tryz.ntmps180;go_wp2;go_ret;exact ⟨_,rfl,rfl⟩):P:=h
theorem JA (h:P:=by go_enter Tryz.func101,Tryz.ntmps101;go_wp2;go_ret;exact ⟨rfl,0,rfl⟩):P:=h
theorem JB (h:P:=by
 rw[←h4,List.getElem?_take] at hj;split at hj
 ·simpa using hj
 ·cases hj):P:=h
theorem JC (h:P:=by rw[h4.2];simp only;rw[ZfE ht htC,if_neg (fun e=>hjt e.symm)];exact h3):P:=h
theorem JD (h:P:=by exact ⟨Zm Hr.out.symm,hG.trans hGg⟩):P:=h
theorem JE (h:P:=by exact Nat.le_refl _):P:=h
theorem JF (h:P:=by simp only[ecN];rw[if_pos h,if_neg (by rw[←hk];exact hR), ←hk,hn]):P:=h
end
variable {A B Q:Prop} {C:World->Prop} {K:Act->Prop} {P:Program} {R:Ending->World->Prop} {S T:Nat->Prop} {a a':Option Addr} {b c w w':World} {bytes cap cap' g j k l m n sz:Nat} {cs news:List Value} {e t:TypeId} {fn:Func} {i:Int} {p:Addr} {u v z:Value} {x:Operand} {xs:List Int} {xss:List (List Int)} {α:Type}
structure Keep (S:Nat->Prop) (w w':World):Prop where
 os:w'.os=w.os
 tape:w'.tape=w.tape
 output:w'.output=w.output
 size:w.heap.size<=w'.heap.size
 frozen: ∀ a,a.block<w.heap.size->w'.frozen? a=w.frozen? a
 block: ∀ k,k<w.heap.size->S k->w'.heap[k]? =w.heap[k]?
def Grow (w w':World):Prop:=Keep (fun _=>True) w w'
theorem Keep.refl (S:Nat->Prop) (w:World):Keep S w w:=⟨rfl,rfl,rfl,JM _,fun _ _=>rfl,fun _ _ _=>rfl⟩
theorem Keep.trans {a:World} (h:Keep S a b) (k:Keep S b c):Keep S a c:=
 ⟨k.os.trans h.os, k.tape.trans h.tape, k.output.trans h.output, K6 h.size k.size, fun x d => (k.frozen x (Lj d h.size)).trans (h.frozen x d),
  fun i e f=>(k.block i (Lj e h.size) f).trans (h.block i e f)⟩
theorem Keep.mono (h:Keep S w w') (ht: ∀ k,k<w.heap.size->T k->S k):Keep T w w':=
 ⟨h.os,h.tape,h.output,h.size,h.frozen,fun k a b=>h.block k a (ht k a b)⟩
theorem Keep.drew {a:World} (h:Keep S a w):Keep S a w.drew:=⟨h.os,h.tape,h.output,h.size,h.frozen,h.block⟩
theorem Keep.drewN {a:World} (h:Keep S a w) (n:Nat):Keep S a (w.drewN n):=⟨h.os,h.tape,h.output,h.size,h.frozen,h.block⟩
theorem Keep.alloc {a:World} (h:Keep S a w) (c:Array Value) (t:TypeId):Keep S a (w.alloc (.cells c t)):=
 h.trans ⟨rfl,rfl,rfl,Θ,fun x _=>frozen?_alloc_cells w c t x,fun k b _=>Below.heap_alloc _ _ _ b⟩
theorem Keep.setCell {a:World} (h:Keep S a w) (hp:p.block<a.heap.size-> ¬ S p.block) (u:Value):Keep S a (w.setCell p u):=
 ⟨h.os, h.tape, h.output, by simpa using h.size, fun x d => by rw [World.frozen?_setCell]; exact h.frozen x d,
  fun k b c=>by rw[Below.heap_setCell _ _ _ _ (fun e=>hp (e▸b) (e▸c))];exact h.block k b c⟩
theorem Grow.refl (w:World):Grow w w:=Keep.refl _ _
theorem Grow.trans {a:World} (h:Grow a b) (k:Grow b c):Grow a c:=Keep.trans h k
theorem Grow.drew {a:World} (h:Grow a w):Grow a w.drew:=Keep.drew h
theorem Grow.drewN {a:World} (h:Grow a w) (n:Nat):Grow a (w.drewN n):=Keep.drewN h n
theorem Grow.alloc {a:World} (h:Grow a w) (c:Array Value) (t:TypeId):Grow a (w.alloc (.cells c t)):=Keep.alloc h c t
theorem Grow.setCell {a:World} (h:Grow a w) (hp:a.heap.size<=p.block) (u:Value):Grow a (w.setCell p u):=Keep.setCell h (fun b=>I) u
theorem Grow.keep {a:World} (h:Grow a b) (k:Keep S b c) (hS: ∀ i,i<a.heap.size->S i):Grow a c:=
 ⟨k.os.trans h.os, k.tape.trans h.tape, k.output.trans h.output, K6 h.size k.size, fun x e => (k.frozen x (Lj e h.size)).trans (h.frozen x e),
  fun i d _=>(k.block i (Lj d h.size) (hS i d)).trans (h.block i d trivial)⟩
theorem Grow.any {a:World} (h:Grow a b):Keep S a b:=Keep.mono h fun _ _ _=>trivial
theorem Grow.cell (h:Grow w w') (hc:w.cell? p=some v):w'.cell? p=some v:=
 (OG (w:=w) (h.block p.block (KE w p hc) trivial)).trans hc
theorem Grow.below (h:Grow w w'):Below w.heap.size w w':=⟨h.os,h.tape,h.output,h.size,fun k a=>h.block k a trivial⟩
theorem Keep.cell (h:Keep S w w') (hS:S p.block) (hc:w.cell? p=some v):w'.cell? p=some v:=
 (OG (w:=w) (h.block p.block (KE w p hc) hS)).trans hc
def Qt (w w':World):Prop:= ∃ q,w'=w.drewN q
theorem Qt.refl (w:World):Qt w w:=⟨0,rfl⟩
theorem Qt.drewN {a:World} (h:Qt a w) (n:Nat):Qt a (w.drewN n):=by
 obtain ⟨q,rfl⟩:=h;exact ⟨q+n,World.drewN_drewN _ _ _⟩
theorem Qt.trans {a:World} (h:Qt a b) (k:Qt b c):Qt a c:=by
 obtain ⟨q,rfl⟩:=k;exact h.drewN q
theorem Qt.grow {a:World} (h:Qt a b):Grow a b:=by
 obtain ⟨q,rfl⟩:=h;exact (Grow.refl a).drewN q
def Blk (w:World) (g:Nat) (cs:Array Value) (t:TypeId):Prop:=w.heap[g]? =some (.cells cs t (0,0))
theorem Blk.new (w:World) (cs:Array Value) (t:TypeId):Blk (w.alloc (.cells cs t)) w.heap.size cs t:=heap_alloc_new w _
theorem Blk.newAt (w:World) (cs:Array Value) (t:TypeId) (hg:g=w.heap.size):Blk (w.alloc (.cells cs t)) g cs t:=hg▸heap_alloc_new w _
theorem Blk.lt {cs:Array Value} (h:Blk w g cs t):g<w.heap.size:=(LG.1 h).1
theorem Blk.keep {cs:Array Value} (h:Blk w g cs t) (hk:Keep S w w') (hS:S g):Blk w' g cs t:=(hk.block g h.lt hS).trans h
theorem Blk.grow {cs:Array Value} (h:Blk w g cs t) (hk:Grow w w'):Blk w' g cs t:=h.keep hk trivial
theorem Blk.alloc {cs:Array Value} (h:Blk w g cs t) (o:Obj):Blk (w.alloc o) g cs t:=(Below.heap_alloc w o g h.lt).trans h
theorem Blk.cell {cs:Array Value} (h:Blk w g cs t) (j:Nat):w.cell? ⟨g,j,none⟩=cs[j]? :=cell_of_row w g j cs t (0,0) h
theorem Blk.free {cs:Array Value} (h:Blk w g cs t) (j:Nat):w.frozen? ⟨g,j,none⟩=false:=frozen_of_row w g j cs t h
theorem Blk.set {cs:Array Value} (h:Blk w g cs t) (j:Nat) (v:Value):Blk (w.setCell ⟨g,j,none⟩ v) g (cs.setIfInBounds j v) t:=heap_setCell_same w g j cs t v h
theorem Blk.other {cs:Array Value} (h:Blk w g cs t) (hp:g≠p.block) (v:Value):Blk (w.setCell p v) g cs t:=(heap_setCell_other w p g v hp).trans h
theorem Blk.three {x y:Value} (h:Blk w g #[x,y,z] t):
  (w.cell? ⟨g,0,none⟩=some x/\w.cell? ⟨g,1,none⟩=some y/\w.cell? ⟨g,2,none⟩=some z)/\(w.frozen? ⟨g,0,none⟩=false/\w.frozen? ⟨g,1,none⟩=false/\w.frozen? ⟨g,2,none⟩=false):=
 ⟨⟨h.cell 0,h.cell 1,h.cell 2⟩,h.free 0,h.free 1,h.free 2⟩
def StT (P:Program) (ty:TypeId) (sz:Nat):Prop:= ∃ fs,P.underlying ty=some (.struct fs)/\(P.info? ty).map (·.size)=some sz
theorem StT.load {ty:TypeId} {cs:Array Value} (h:StT P ty cs.size) (hb:Blk w g cs t):(loadVar ty ⟨g,0,none⟩).run P w= .ok (.agg cs) w:=by
 obtain ⟨c,a,b⟩:=h;exact run_loadVar_row w g t ty cs (0,0) _ hb a rfl b
theorem Zx {a:Act} {ty:TypeId} {cs:Array Value} {p:Tmp} (hT:StT P ty cs.size) (h:fn.results= #[.cell p ty]) (hd:a.defers=[]) (hp:a.tmps.getD p undef= .pointer (some ⟨g,0,none⟩))
  (hb:Blk w g cs t) (hR:R (.returned (.agg cs)) w):bodyPost P fn R .ret a w:=by
 have b:a.tmps[p]?.getD undef= .pointer (some ⟨g,0,none⟩):=Et
 exact bodyPost_ret (v:= .agg cs) (by simp[results,h,b,asAddr,hT.load hb]) hd hR
theorem Zb {a:Act} {ty:TypeId} {cs:Array Value} {p u:Tmp} (hT:StT P ty cs.size) (h:fn.results= #[.cell p ty, .tmp u]) (hd:a.defers=[]) (hp:a.tmps.getD p undef= .pointer (some ⟨g,0,none⟩))
  (hb:Blk w g cs t) (hR:R (.returned (.tuple #[.agg cs,a.tmps.getD u undef])) w):bodyPost P fn R .ret a w:=by
 refine bodyPost_ret (v:= .tuple #[.agg cs,a.tmps.getD u undef]) ?_ hd hR;rw[results_cell_tmp h,hp];simp[asAddr,hT.load hb]
def CellT (P:Program) (ty:TypeId):Prop:= ∃ d,P.underlying ty=some d/\(∀ fs,d≠ .struct fs)/\ ∀ n e,d≠ .array n e
theorem CellT.int {ty:TypeId} {k:IntKind} (h:P.underlying ty=some (.int k)):CellT P ty:=⟨_,h,(fun _ e=>Ca),(fun _ _ e=>Ca)⟩
theorem CellT.slice {ty:TypeId} (h:P.underlying ty=some (.slice e)):CellT P ty:=⟨_,h,(fun _ e=>Ca),(fun _ _ e=>Ca)⟩
theorem CellT.string {ty:TypeId} (h:P.underlying ty=some .string):CellT P ty:=⟨_,h,(fun _ e=>Ca),(fun _ _ e=>Ca)⟩
theorem CellT.bool {ty:TypeId} (h:P.underlying ty=some .bool):CellT P ty:=⟨_,h,(fun _ e=>Ca),(fun _ _ e=>Ca)⟩
theorem CellT.load {ty:TypeId} (h:CellT P ty) (hc:w.cell? p=some v):(Instr.loadAt ty (.pointer (some p))).run P w= .ok v w:=by
 obtain ⟨d,a,b,c⟩:=h;have e:(isAgg ty).run P w= .ok false w:=by cases d<;>simp[isAgg,run_underlying a]<;>first |exact (b _ rfl).elim|exact (c _ _ rfl).elim
 simp[Instr.loadAt,Instr.sureAddr,loadVar,e,hc]
section
variable {P:Program} {C:World->Prop} {o:Oper} {a:Act} {K:Act->Prop}
theorem Zg1 {t:TypeId} {x:Operand} {lo hi mx:Option Operand} {v:Value} (ho:o.op= .slice t x lo hi mx)
  (hr: ∀ w,(Instr.sliceAt t (a.eval x) (lo.map a.eval) (hi.map a.eval) (mx.map a.eval)).run P w= .ok v w) (hk:K (a.put o.dst v)):o.quiet P a C K:=by
 refine ⟨v,fun w b=> ?_,hk⟩;unfold Oper.quietAt execOp;simp[ho,hr w,Oper.quietUpon]
theorem ZiP {t:TypeId} {x h:Operand} {v:Value} (ho:o.op= .slice t x none (some h) none)
  (hr: ∀ w,(Instr.sliceAt t (a.eval x) none (some (a.eval h)) none).run P w= .ok v w) (hk:K (a.put o.dst v)):o.quiet P a C K:=Zg1 ho hr hk
theorem ZeH {t:TypeId} {x l:Operand} {v:Value} (ho:o.op= .slice t x (some l) none none)
  (hr: ∀ w,(Instr.sliceAt t (a.eval x) (some (a.eval l)) none none).run P w= .ok v w) (hk:K (a.put o.dst v)):o.quiet P a C K:=Zg1 ho hr hk
theorem Zie {t:TypeId} {x l h:Operand} {v:Value} (ho:o.op= .slice t x (some l) (some h) none)
  (hr: ∀ w,(Instr.sliceAt t (a.eval x) (some (a.eval l)) (some (a.eval h)) none).run P w= .ok v w) (hk:K (a.put o.dst v)):o.quiet P a C K:=Zg1 ho hr hk
theorem Zaw {ty:TypeId} {x:Operand} {g:Nat} {cs:Array Value} {t:TypeId} (hty:StT P ty cs.size) (ho:o.op= .load ty x) (hx:a.eval x= .pointer (some ⟨g,0,none⟩))
  (hv: ∀ w',C w'->Blk w' g cs t) (hk:K (a.put o.dst (.agg cs))):o.quiet P a C K:=by
 refine ⟨.agg cs,fun w b=> ?_,hk⟩;have h:=hty.load (hv w b);exact Io
theorem Zw {ty:TypeId} {x:Operand} {p:Addr} {v:Value} (hty:CellT P ty) (ho:o.op= .load ty x) (hx:a.eval x= .pointer (some p))
  (hv: ∀ w',C w'->w'.cell? p=some v) (hk:K (a.put o.dst v)):o.quiet P a C K:=by
 refine ⟨v,fun w b=> ?_,hk⟩;have h:=hty.load (hv w b);unfold Oper.quietAt execOp;simp[ho,hx,h,Oper.quietUpon]
end
structure Row (w:World) (S:Nat->Prop) (sz:Nat) (a:Option Addr) (n cap:Nat) (cs:List Value):Prop where
 len:cs.length=n*sz
 le:n<=cap
 max:cap<=maxLen
 nil:a=none->cap=0
 addr:cs≠[]-> ∃ b off,a=some ⟨b,off,none⟩/\S b/\ ∀ j c,cs[j]? =some c->w.cell? ⟨b,off+j,none⟩=some c
theorem Row.keep (h:Row w S sz a n cap cs) (hk:Keep T w w') (hST: ∀ b,b<w.heap.size->S b->T b):Row w' S sz a n cap cs:=by
 refine ⟨h.len,h.le,h.max,h.nil,fun d=> ?_⟩;obtain ⟨b,e,i,f,k⟩:=h.addr d;refine ⟨b,e,i,f,fun j c l=> ?_⟩;have g:=k j c l;exact hk.cell (hST b (KE w _ g) f) g
theorem Row.grow (h:Row w S sz a n cap cs) (hk:Grow w w'):Row w' S sz a n cap cs:=h.keep hk fun _ _ _=>trivial
theorem Row.weak (h:Row w S sz a n cap cs) (hST: ∀ b,b<w.heap.size->S b->T b):Row w T sz a n cap cs:=by
 refine ⟨h.len,h.le,h.max,h.nil,fun d=> ?_⟩;obtain ⟨b,e,g,i,f⟩:=h.addr d;refine ⟨b,e,g, ?_,f⟩;cases cs with
 |nil=>exact (d rfl).elim
 |cons c r=>exact hST b (KE w _ (f 0 c rfl)) i
abbrev ints (xs:List Int):List Value:=xs.map (Value.int .i64)
theorem ZdE (xs:List Int): ∀ u∈ints xs,u.oneCell'=true:=by
 intro u a;obtain ⟨x,_,rfl⟩:=List.mem_map.1 a;rfl
def I64 (n:Int):Prop:= -9223372036854775808<=n/\n<=9223372036854775807
structure RdI (w:World) (S:Nat->Prop) (a:Option Addr) (n cap:Nat) (xs:List Int):Prop where
 row:Row w S 1 a n cap (ints xs)
 rng: ∀ x∈xs,I64 x
theorem RdI.len (h:RdI w S a n cap xs):xs.length=n:=by simpa using h.row.len
theorem RdI.keep (h:RdI w S a n cap xs) (hk:Keep T w w') (hST: ∀ b,b<w.heap.size->S b->T b):RdI w' S a n cap xs:=⟨h.row.keep hk hST,h.rng⟩
theorem RdI.grow (h:RdI w S a n cap xs) (hk:Grow w w'):RdI w' S a n cap xs:=⟨h.row.grow hk,h.rng⟩
theorem RdI.weak (h:RdI w S a n cap xs) (hST: ∀ b,b<w.heap.size->S b->T b):RdI w T a n cap xs:=⟨h.row.weak hST,h.rng⟩
theorem RdI.at (h:RdI w S a n cap xs) (hk:k<n):
  ∃ b off x,a=some ⟨b,off,none⟩/\xs[k]? =some x/\I64 x/\S b/\b<w.heap.size/\w.cell? ⟨b,off+k,none⟩=some (.int .i64 x):=by
 have i:=h.len;have hlt:k<xs.length:=I
 obtain ⟨b,off,d,f,g⟩:=h.row.addr DD;have c:=g k (.int .i64 xs[k]) (by simp[JR hlt]);exact ⟨b,off,xs[k],d,JR hlt,h.rng _ (List.getElem_mem hlt),f,KE w _ c,c⟩
theorem RdI.nilw (w:World):RdI w S none 0 0 []:=⟨⟨rfl,JM _,DQ,fun _=>rfl,fun h=>(h rfl).elim⟩,fun _ h=>Ω⟩
structure RdII (w:World) (S:Nat->Prop) (a:Option Addr) (n cap:Nat) (xss:List (List Int)):Prop where
 row: ∃ vs:List Value,Row w S 1 a n cap vs/\ ∀ (i:Nat) (xs:List Int),xss[i]? =some xs-> ∃ b c,vs[i]? =some (Value.slice b xs.length c)/\RdI w S b xs.length c xs
 len:xss.length=n
theorem RdII.keep (h:RdII w S a n cap xss) (hk:Keep T w w') (hST: ∀ b,b<w.heap.size->S b->T b):RdII w' S a n cap xss:=by
 obtain ⟨⟨d,e,f⟩,g⟩:=h;refine ⟨⟨d,e.keep hk hST,fun i j k=> ?_⟩,g⟩;obtain ⟨b,c,l,m⟩:=f i j k;exact ⟨b,c,l,m.keep hk hST⟩
theorem RdII.grow (h:RdII w S a n cap xss) (hk:Grow w w'):RdII w' S a n cap xss:=h.keep hk fun _ _ _=>trivial
theorem RdII.weak (h:RdII w S a n cap xss) (hST: ∀ b,b<w.heap.size->S b->T b):RdII w T a n cap xss:=by
 obtain ⟨⟨d,e,f⟩,g⟩:=h;refine ⟨⟨d,e.weak hST,fun i j k=> ?_⟩,g⟩;obtain ⟨b,c,l,m⟩:=f i j k;exact ⟨b,c,l,m.weak hST⟩
theorem RdII.at (h:RdII w S a n cap xss) (hk:k<n):
  ∃ b off xs a' c',a=some ⟨b,off,none⟩/\xss[k]? =some xs/\S b/\b<w.heap.size/\w.cell? ⟨b,off+k,none⟩=some (.slice a' xs.length c')/\RdI w S a' xs.length c' xs:=by
 obtain ⟨⟨p,g,i⟩,q⟩:=h;have c:k<xss.length:=I
 obtain ⟨a',c',d,j⟩:=i k _ (JR c);obtain ⟨b,off,l,m,o⟩:=g.addr (by intro e;subst e;simp at d);have f:=o k _ d;exact ⟨b,off,xss[k],a',c',l,JR c,m,KE w _ f,f,j⟩
def blk:Option Addr->Option Nat
 |some p=>some p.block
 |none=>none
@[simp] theorem Zwu (p:Addr):blk (some p)=some p.block:=rfl
@[simp] theorem Zww:blk none=none:=rfl
structure Own (w:World) (e:TypeId) (sz:Nat) (a:Option Addr) (n cap:Nat) (cs:List Value):Prop where
 len:cs.length=n*sz
 le:n<=cap
 max:cap<=maxLen
 nil:a=none->cap=0
 block: ∀ p,a=some p->p=⟨p.block,0,none⟩/\ ∃ cur,w.heap[p.block]? =some (.cells cur e (0,0))/\cap*sz<=cur.size/\cur.toList.take (n*sz)=cs
theorem Own.keep (h:Own w e sz a n cap cs) (hk:Keep T w w') (hT: ∀ g,blk a=some g->g<w.heap.size->T g):Own w' e sz a n cap cs:=by
 refine ⟨h.len,h.le,h.max,h.nil,fun p d=> ?_⟩;obtain ⟨i,c,f,j,k⟩:=h.block p d;have b:=(LG.1 f).1;exact ⟨i,c,(hk.block _ b (hT _ (by simp[d]) b)).trans f,j,k⟩
theorem Own.grow (h:Own w e sz a n cap cs) (hk:Grow w w'):Own w' e sz a n cap cs:=h.keep hk fun _ _ _=>trivial
theorem Own.lt (h:Own w e sz a n cap cs) (hg:blk a=some g):g<w.heap.size:=by
 cases a with
 |none=>simp at hg
 |some p=>obtain ⟨d,b,c,_⟩:=h.block p rfl;simp at hg;subst hg;exact (LG.1 c).1
theorem Own.row (h:Own w e sz a n cap cs) (hS: ∀ g,blk a=some g->S g):Row w S sz a n cap cs:=by
 refine ⟨h.len,h.le,h.max,h.nil,fun b=> ?_⟩;cases a with
 |none=>
  have:=h.nil rfl;have f:=h.le;have h2:=h.len;have:n=0:=I
  subst this;exact (b (M8 Cd)).elim
 |some p=>
  obtain ⟨f,d,h2,_,h4⟩:=h.block p rfl;refine ⟨p.block,0,by rw[←f],hS _ rfl,fun j c hj=> ?_⟩;rw[Nat.zero_add,cell_of_row w p.block j d e (0,0) h2];exact JB
theorem Own.rdI (h:Own w e 1 a n cap (ints xs)) (hS: ∀ g,blk a=some g->S g) (hr: ∀ x∈xs,I64 x):RdI w S a n cap xs:=⟨h.row hS,hr⟩
theorem Own.fresh {cs:Array Value} (hn:n<=maxLen) (hs:cs.size=n*sz):Own (w.alloc (.cells cs e)) e sz (some ⟨w.heap.size,0,none⟩) n n cs.toList:=by
 refine ⟨by simpa using hs,JM _,hn,(fun h=>Ω),fun p a=> ?_⟩;obtain rfl:=JJ a;exact ⟨rfl,cs,heap_alloc_new w _,I,by rw[←hs, ←Array.length_toList];exact Mi⟩
theorem Own.freshAt {cs:Array Value} (hg:g=w.heap.size) (hn:n<=maxLen) (hs:cs.size=n*sz):Own (w.alloc (.cells cs e)) e sz (some ⟨g,0,none⟩) n n cs.toList:=hg▸Own.fresh hn hs
theorem Own.nilw:Own w e sz none 0 0 []:=⟨Θ,JM _,DQ,fun _=>rfl,fun p a=>by cases a⟩
theorem Own.set (h:Own w e sz (some p) n cap cs) (j:Nat) (v:Value):
  Own (w.setCell ⟨p.block,j,none⟩ v) e sz (some p) n cap (cs.set j v):=by
 obtain ⟨c,a,b,d,f⟩:=h.block p rfl;refine ⟨by rw[List.length_set];exact h.len,h.le,h.max,h.nil,fun q g=> ?_⟩;obtain rfl:=JJ g;refine ⟨c,a.setIfInBounds j v, ?_,by simpa using d, ?_⟩
 ·have i:=(LG.1 b).1;simp[World.setCell,Array.getElem?_modify,b]
 ·rw[←f];simp[List.take_set]
theorem Own.cell (h:Own w e sz (some p) n cap cs) {c:Value} (hj:cs[j]? =some c):w.cell? ⟨p.block,j,none⟩=some c:=by
 obtain ⟨d,a,b,f,h4⟩:=h.block p rfl;rw[cell_of_row w p.block j a e (0,0) b];exact JB
theorem Own.free (h:Own w e sz (some p) n cap cs) (j:Nat):w.frozen? ⟨p.block,j,none⟩=false:=by
 obtain ⟨_,a,b,_⟩:=h.block p rfl;exact frozen_of_row w p.block j a e b
structure Apped (w w':World) (e:TypeId) (sz:Nat) (a a':Option Addr) (n cap':Nat) (cs:List Value):Prop where
 own:Own w' e sz a' n cap' cs
 keep:Keep (fun k=>blk a≠some k) w w'
 new:blk a'=blk a\/ ∃ g,blk a'=some g/\w.heap.size<=g
theorem Apped.grow {w0:World} (h:Apped w w' e sz a a' n cap' cs) (hg:Grow w0 w) (ha: ∀ g,blk a=some g->w0.heap.size<=g):Grow w0 w':=
 hg.keep h.keep fun i b e=>by have:=ha i e;omega
theorem Apped.lo {B:Nat} (h:Apped w w' e sz a a' n cap' cs) (hB:B<=w.heap.size) (ha: ∀ g,blk a=some g->B<=g): ∀ g,blk a'=some g->B<=g:=by
 intro g b;rcases h.new with e|⟨d,e,c⟩
 ·exact ha g (e▸b)
 ·rw[e] at b;have:=JJ b;omega
theorem ZjD {cur:Array Value} (hg:w.heap[g]? =some (.cells cur e (0,0))) (cs:Array Value):Keep (fun k=>some g≠some k) w (w.setRow g cs):=by
 refine ⟨rfl,rfl,rfl,Θ,fun x _=> ?_,fun k _ b=>setRow_other w g k _ (fun e=>b (by simp[e]))⟩;by_cases a:x.block=g
 ·have c:=setRow_heap w g cur cs e (0,0) hg;simp[OH,a,c,hg]
 ·simp[OH,setRow_other w g x.block cs a]
theorem ZlF (w:World) (t ty e:TypeId) (i:TypeInfo) (z:Value) (sz bytes:Nat) (ht:P.underlying t=some (.slice e)) (hi:P.info? e=some i) (hz:i.zero=some z)
  (hsize:i.size=sz) (hby:i.bytes=bytes) (hzs:z.cells.size=sz)
  (hown:Own w e sz a n cap cs) {b:Option Addr} {c:Nat} (hsrc:Row w S sz b m c news) (h1: ∀ u∈news,u.oneCell'=true)
  (hbytes:(n+m)*bytes<=140737488355328) (h63:n+m<=maxLen):
  ∃ a' cap' w',(Builtin.append_ #[t,t] ty #[.slice a n cap, .slice b m c]).run P w= .ok (.slice a' (n+m) cap') w'/\Apped w w' e sz a a' (n+m) cap' (cs++news):=by
 subst hsize;subst hby;have hlen:(cs++news).length=(n+m)*i.size:=by rw[List.length_append,hown.len,hsrc.len,Ki]
 have o: ¬ (9223372036854775807<(((n+m:Nat):Int))):=Eu
 have r: ∀ W:World,(∀ p,W.cell? p=w.cell? p)->(Builtin.firstCells i.size m (.slice b m c)).run P W= .ok news.toArray W:=fun W G=>by
  by_cases d:news=[]
  ·subst d;have s:m*i.size=0:=(by have:=hsrc.len;simpa using this.symm);cases b with
   |none=>simp[Builtin.firstCells]
   |some q=>exact run_firstCells_some W i.size m q m c [] (by simpa using s.symm) Θ
  ·obtain ⟨q,off,rfl,_,hc⟩:=hsrc.addr d;refine run_firstCells_some W i.size m _ m c news hsrc.len fun j u hj=> ?_;rw[G];exact Ip
 by_cases hroom:n+m<=cap
 ·cases a with
  |none=>have H:=hown.nil rfl;have v:n=0:=(by have:=hown.le;omega);have x:m=0:=I;subst v;subst x;subst H;have J:cs=[]:=M8 (by simpa using hown.len);have L:news=[]:=M8 (by simpa using hsrc.len);subst J;subst L;refine ⟨none,0,w, ?_,Own.nilw,Keep.refl _ _, .inl rfl⟩;simp[Builtin.append_,run_underlying ht,sizeOf,typeInfo,hi,Builtin.lenOf,r w (fun _=>rfl)]
  |some p=>
   obtain ⟨E,f,y,g,k⟩:=hown.block p rfl;have l:=run_storeCells_at P p.block (n*i.size) e news 0 f w y (by rw[hsrc.len,Lm, ←Ki];exact K6 (K9 _ hroom) g) h1;simp only[Lm] at l;have A:n*i.size+news.length<=f.size:=(by rw[hsrc.len, ←Ki];exact K6 (K9 _ hroom) g);refine ⟨some p,cap,w.setRow p.block (f.toList.take (n*i.size)++news++f.toList.drop (n*i.size+news.length)).toArray, ?_,⟨hlen,hroom,hown.max,(fun h=>Ω),fun q B=> ?_⟩,ZjD y _, .inl rfl⟩
   ·rw[E];simp[Builtin.append_,run_underlying ht,sizeOf,typeInfo,hi,Builtin.lenOf,hroom,r w (fun _=>rfl),Addr.add_lit,l]
   ·obtain rfl:=JJ B;refine ⟨E,_,setRow_heap w p.block f _ e _ y, ?_, ?_⟩
    ·exact IV
    ·rw[k, ←hlen];exact List.take_left
 ·have hold:(Builtin.firstCells i.size n (.slice a n cap)).run P w.drew= .ok cs.toArray w.drew:=by
   have M:=hown.row (S:=fun _=>True) (fun _ _=>trivial);by_cases d:cs=[]
   ·subst d;have s:n*i.size=0:=(by have:=hown.len;simpa using this.symm);cases a with
    |none=>simp[Builtin.firstCells]
    |some q=>exact run_firstCells_some w.drew i.size n q n cap [] (by simpa using s.symm) Θ
   ·obtain ⟨q,off,rfl,_,hc⟩:=M.addr d;refine run_firstCells_some w.drew i.size n _ n cap cs hown.len fun j u hj=> ?_;exact Ip
  have F:=growslice_fits (need:=n+m) (old:=cap) (bytes:=i.bytes) I hbytes;have h48: ¬ (281474976710656<Builtin.nextslicecap (n+m) cap*i.bytes):=I
  have C:=grownCap_ge w (n+m) cap e;have D:grownCap w (n+m) cap e<=maxLen:=grownCap_le_maxLen w (n+m) cap e h63
  refine ⟨some ⟨w.heap.size,0,none⟩,grownCap w (n+m) cap e,w.drew.alloc (.cells (cs.toArray++news.toArray++Builtin.zeroCells z.cells (grownCap w (n+m) cap e-(n+m))) e), ?_,
   ⟨hlen,C,D,(fun h=>Ω),fun q B=> ?_⟩,((Keep.refl _ w).drew).alloc _ _, .inr ⟨_,rfl,JM _⟩⟩
  ·have hf':=r w.drew (fun _=>rfl);have hs2: ¬ (9223372036854775807<((n:Int)+(m:Int))):=I;exact Ig
  ·obtain rfl:=JJ B;refine ⟨rfl,_,heap_alloc_new w.drew _, ?_, ?_⟩
   ·simp only[Array.size_append,List.size_toArray,size_zeroCells,hzs,hown.len,hsrc.len, ←Ki];exact K9 _ I
   ·exact IZ
structure SlT (P:Program) (t e:TypeId) (z:Value) (sz bytes:Nat):Prop where
 ty:P.underlying t=some (.slice e)
 info: ∃ i,P.info? e=some i/\i.zero=some z/\i.size=sz/\i.bytes=bytes
 zero:z.cells.size=sz
theorem SlT.mk' (ht:P.underlying t=some (.slice e)) (h:(P.info? e).map (fun i=>(i.zero,i.size,i.bytes))=some (some z,sz,bytes)) (hz:z.cells.size=sz):SlT P t e z sz bytes:=by
 obtain ⟨i,a,b,c,d⟩:=info_parts h;exact ⟨ht,⟨i,a,b,c,d⟩,hz⟩
theorem ZiY {o:Oper} {A:Act} {K:Act->World->Prop} {Q:Exit->Act->World->Prop} (s x:Operand) (t:TypeId)
  (ho:o.op= .call {callee:= .builtin .append,args:= #[s,x],argTypes:= #[t,t]}) (hT:SlT P t e z sz bytes)
  (hs:A.eval s= .slice a n cap) (hown:Own w e sz a n cap cs) {b:Option Addr} {c:Nat} (hx:A.eval x= .slice b m c) (hsrc:Row w S sz b m c news) (h1: ∀ u∈news,u.oneCell'=true)
  (hbytes:(n+m)*bytes<=140737488355328) (h63:n+m<=maxLen)
  (h: ∀ a' cap' w',Apped w w' e sz a a' (n+m) cap' (cs++news)->K (A.put o.dst (.slice a' (n+m) cap')) w'):o.wp P A w K Q:=by
 obtain ⟨k,⟨i,l,p,d,f⟩,g⟩:=hT;obtain ⟨a',cap',w',q,j⟩:=ZlF (P:=P) w t o.type e i z sz bytes k l p d f g hown hsrc h1 hbytes h63;unfold Oper.wp execOp;simp only[ho,resolve,invoke,builtin,KA,La,KM,L5,JV,Kj,hs,hx,q];exact h a' cap' w' j
theorem ZD {ops:Array Oper} {rest:List Oper} {o:Oper} {A:Act} {Q:Exit->Act->World->Prop} (hgd:o.guard=none) (s x:Operand) (t:TypeId)
  (ho:o.op= .call {callee:= .builtin .append,args:= #[s,x],argTypes:= #[t,t]}) (hT:SlT P t e z sz bytes)
  (hs:A.eval s= .slice a n cap) (hown:Own w e sz a n cap cs) {b:Option Addr} {c:Nat} (hx:A.eval x= .slice b m c) (hsrc:Row w S sz b m c news) (h1: ∀ u∈news,u.oneCell'=true)
  (hbytes:(n+m)*bytes<=140737488355328) (h63:n+m<=maxLen)
  (h: ∀ a' cap' w',Apped w w' e sz a a' (n+m) cap' (cs++news)->wpList P ops Q rest (A.put o.dst (.slice a' (n+m) cap')) w'):wpList P ops Q (o::rest) A w:=by
 obtain ⟨k,⟨i,l,p,d,f⟩,g⟩:=hT;refine wpList_plain hgd fun K hK=> ?_;obtain ⟨a',cap',w',q,j⟩:=ZlF (P:=P) w t o.type e i z sz bytes k l p d f g hown hsrc h1 hbytes h63;unfold Oper.wp execOp;simp only[ho,resolve,invoke,builtin,KA,La,KM,L5,JV,Kj,hs,hx,q];exact hK _ _ (h a' cap' w' j)
theorem Row.built {cs:Array Value} (n:Nat) (hn:n<=maxLen) (hs:cs.size=n*sz) (hS:S w.heap.size):Row (w.alloc (.cells cs e)) S sz (some ⟨w.heap.size,0,none⟩) n n cs.toList:=
 (Own.fresh hn hs).row fun g a=>by simp at a;subst a;exact hS
theorem SlT.make (hT:SlT P t e z sz bytes) (hb:bytes*n<=281474976710656) (h63:n<=maxLen) (w:World):
  (Instr.makeSlice t (.int .i64 (n:Int)) (.int .i64 (n:Int))).run P w= .ok (.slice (some ⟨w.heap.size,0,none⟩) n n) (w.alloc (.cells (madeCells z.cells (n*sz)) e)):=by
 obtain ⟨d,⟨i,f,g,a,b⟩,j⟩:=hT;have h:=run_make (P:=P) w t e i z d f g .i64 .i64 (n:Int) (n:Int) I (Int.le_refl _) (by
  have c:((bytes*n:Nat):Int)<=281474976710656:=I
  rw[Int.natCast_mul] at c;rw[b];exact c) Eu
 simpa [a] using h
theorem ZJ {k:IntKind} {a b:Int} (h:a=b):Ending.returned (.int k a)= .returned (.int k b):=by rw[h]
theorem Zm {a b:Bool} (h:a=b):Ending.returned (.bool a)= .returned (.bool b):=by rw[h]
def Zds (a:Option Addr) (cap l sz:Nat):Option Addr:=if cap=l then a else a.map (·.add (l*sz))
theorem SlT.sliceH (hT:SlT P t e z sz bytes) (hk:k<=cap) (w:World):
  (Instr.slice t (.slice a n cap) none (some (.int .i64 (k:Int))) none).run P w= .ok (.slice a k cap) w:=by
 obtain ⟨c,⟨i,d,m,f,g⟩,h⟩:=hT;have j: ∀ p:Addr,p.add 0=p:=fun p=>by cases p;rename_i b o s;cases s<;>simp[Addr.add]
 have l:=run_sliceBound (P:=P) (w:=w) .i64 (k:Int) cap .sliceAcap I I;cases a<;>simp[Instr.slice,run_underlying c,Instr.sliceBounds,l,sizeOf,typeInfo,d,j]
theorem SlT.sliceL (hT:SlT P t e z sz bytes) (hl:l<=n) (w:World):
  (Instr.slice t (.slice a n cap) (some (.int .i64 (l:Int))) none none).run P w= .ok (.slice (Zds a cap l sz) (n-l) (cap-l)) w:=by
 obtain ⟨c,⟨i,d,j,b,f⟩,g⟩:=hT;have h:=run_sliceBound (P:=P) (w:=w) .i64 (l:Int) n .sliceB I I;simp[Instr.slice,run_underlying c,Instr.sliceBounds,h,sizeOf,typeInfo,d,b,Zds]
theorem SlT.sliceLH (hT:SlT P t e z sz bytes) (hl:l<=k) (hk:k<=cap) (w:World):
  (Instr.slice t (.slice a n cap) (some (.int .i64 (l:Int))) (some (.int .i64 (k:Int))) none).run P w= .ok (.slice (Zds a cap l sz) (k-l) (cap-l)) w:=by
 obtain ⟨d,⟨i,f,m,b,g⟩,h⟩:=hT;have j:=run_sliceBound (P:=P) (w:=w) .i64 (k:Int) cap .sliceAcap I I;have c:=run_sliceBound (P:=P) (w:=w) .i64 (l:Int) k .sliceB I I;simp[Instr.slice,run_underlying d,Instr.sliceBounds,j,c,sizeOf,typeInfo,f,b,Zds]
theorem SlT.sliceAt (hT:SlT P t e z sz bytes) (x:Value) (lo hi mx:Option Value) (w:World):(Instr.sliceAt t x lo hi mx).run P w=(Instr.slice t x lo hi mx).run P w:=by
 simp[Instr.sliceAt,run_underlying hT.ty]
theorem SlT.atH (hT:SlT P t e z sz bytes) (hi:i=k) (hk:k<=cap) (w:World):
  (Instr.sliceAt t (.slice a n cap) none (some (.int .i64 i)) none).run P w= .ok (.slice a k cap) w:=by subst hi;rw[hT.sliceAt];exact hT.sliceH hk w
theorem SlT.atL (hT:SlT P t e z sz bytes) (hi:i=l) (hl:l<=n) (w:World):
  (Instr.sliceAt t (.slice a n cap) (some (.int .i64 i)) none none).run P w= .ok (.slice (Zds a cap l sz) (n-l) (cap-l)) w:=by subst hi;rw[hT.sliceAt];exact hT.sliceL hl w
theorem SlT.atLH (hT:SlT P t e z sz bytes) {j:Int} (hi:i=l) (hj:j=k) (hl:l<=k) (hk:k<=cap) (w:World):
  (Instr.sliceAt t (.slice a n cap) (some (.int .i64 i)) (some (.int .i64 j)) none).run P w= .ok (.slice (Zds a cap l sz) (k-l) (cap-l)) w:=by subst hi;subst hj;rw[hT.sliceAt];exact hT.sliceLH hl hk w
theorem Row.sub (h:Row w S sz a n cap cs) (hl:l<=k) (hk:k<=n):
  Row w S sz (Zds a cap l sz) (k-l) (cap-l) ((cs.drop (l*sz)).take ((k-l)*sz)):=by
 have v:=h.len;have x:=h.le;have y:=h.max;have z:(k-l)*sz<=(n-l)*sz:=K9 _ I;have A:(n-l)*sz=n*sz-l*sz:=Nat.sub_mul _ _ _;refine ⟨Ψ,I,I,fun e=> ?_,fun hne=> ?_⟩
 ·have q:a=none:=by
   cases a with
   |none=>rfl
   |some p=>unfold Zds at e;split at e<;>simp at e
  have:=h.nil q;omega
 ·have m:cs≠[]:=EH
  obtain ⟨b,d,rfl,r,s⟩:=h.addr m;have f:0<(k-l)*sz:=by
   rcases Nat.eq_zero_or_pos ((k-l)*sz) with o|o
   ·rw[o] at hne;simp at hne
   ·exact o
  have g:cap≠l:=by intro e;have:k-l=0:=I;rw[this] at f;simp at f
  have t:Zds (some ⟨b,d,none⟩) cap l sz=some ⟨b,d+l*sz,none⟩:=by unfold Zds;rw[if_neg g];simp[Addr.add]
  refine ⟨b,d+l*sz,t,r,fun j c i=> ?_⟩;rw[LH] at i;split at i
  ·rw[List.getElem?_drop] at i;have:=s _ c i
   rwa [Nat.add_assoc]
  ·cases i
theorem RdI.sub (h:RdI w S a n cap xs) (hl:l<=k) (hk:k<=n):
  RdI w S (Zds a cap l 1) (k-l) (cap-l) ((xs.drop l).take (k-l)):=by
 refine ⟨?_,fun x b=>h.rng x (List.mem_of_mem_drop (L6 b))⟩;have:=h.row.sub hl hk;simpa [Mj,List.map_drop] using this
theorem RdI.pre (h:RdI w S a n cap xs) (hk:k<=n):RdI w S a k cap (xs.take k):=by
 refine ⟨⟨by have:=h.row.len;simp at this ⊢;omega,by have:=h.row.le;omega,h.row.max,h.row.nil,fun f=> ?_⟩,fun x l=>h.rng x (L6 l)⟩;have g:ints xs≠[]:=by intro e;apply f;rw[show ints (xs.take k)=(ints xs).take k from by simp[Mj],e];exact List.take_nil
 obtain ⟨b,i,rfl,m,o⟩:=h.row.addr g;refine ⟨b,i,rfl,m,fun j c d=>o j c ?_⟩;rw[show ints (xs.take k)=(ints xs).take k from by simp[Mj],LH] at d;split at d
 ·exact d
 ·cases d
def Op.plain:Op->Bool
 | .move _| .assign _| .pick .. | .load .. | .binOp .. | .unOp .. | .slice .. | .fieldAddr .. | .field .. | .indexAddr .. | .index .. | .extract .. | .convert .. | .nilCheck _=>true
 | .call {callee:= .builtin .len, ..}| .call {callee:= .builtin .min, ..}| .call {callee:= .builtin .max, ..}=>true
 |_=>false
theorem Op.plain_run {ρ:Operand->Value} {o:Oper} (h:Op.plain o.op=true) {r:Next} (hr:(execOp ρ o).run P w= .ok r w'): ∃ v,r= .value v:=by
 obtain ⟨z,op,s,A,n,p⟩:=o;have l: ∀ (e:Sem Value),(do pure (Next.value (←e)):Sem Next).run P w= .ok r w'-> ∃ v,r= .value v:=fun e g=>by
  rw[KA] at g;cases j:e.run P w with
  |ok v u=>rw[j] at g;simp at g;exact ⟨v,g.1.symm⟩
  |halt x u=>rw[j] at g;simp[NC] at g
 cases op<;>simp only[Op.plain] at h<;>try contradiction
 case call c=>
  obtain ⟨i,t,B⟩:=c;cases i with
  |builtin b=>cases b<;>first |exact l _ hr|(simp at h;done)
  |value f=>simp at h
  |invoke f m=>simp at h
 case nilCheck x=>
  have d: ∀ {α:Type} (e:Sem α) (f:α->Sem Next),(∀ a u r k,(f a).run P u= .ok r k-> ∃ v,r= .value v)-> ∀ u r k,(e >>=f).run P u= .ok r k-> ∃ v,r= .value v:=fun e f C u r k g=>by
   rw[KA] at g;cases j:e.run P u with
   |ok v q=>rw[j] at g;exact C _ _ _ _ g
   |halt x q=>rw[j] at g;simp[NC] at g
  simp only[execOp] at hr;split at hr;all_goals first
   |(simp[runtimePanic] at hr;done)
   |(simp at hr;exact ⟨_,hr.1.symm⟩)
   | (split at hr
      all_goals first
       |(simp[runtimePanic] at hr;done)
       |(simp at hr;exact ⟨_,hr.1.symm⟩)
       | exact d _ _ (fun a u r k h => d _ _ (fun b u r k h => by
         split at h
         ·exact d _ _ (fun c u r k h=>by simp at h;exact ⟨_,h.1.symm⟩) _ _ _ h
         ·simp at h;exact ⟨_,h.1.symm⟩) _ _ _ h) _ _ _ hr)
 case pick c x y=>
  simp[execOp] at hr;cases j:(asBool (ρ c)).run P w with
  |ok v u=>rw[j] at hr;simp at hr;exact ⟨_,hr.1.symm⟩
  |halt x u=>rw[j] at hr;simp[NC] at hr
 all_goals first
  |exact l _ hr
  |(simp[execOp] at hr;exact ⟨_,hr.1.symm⟩)
def ZaX (ops:Array Oper):List Nat->Array Bool->Option (Array Bool)
 |[],listed=>some listed
 |i::r,listed=>if (Kz .any ops listed).contains i&&Region.free .any ops listed i&&((ops[i]?).map fun o=>Op.plain o.op&&o.dst.isSome).getD false then ZaX ops r (listed.setIfInBounds i true) else none
def Zhf (ops:Array Oper):List Nat->Array Bool->Bool
 |[],listed=>(Kz .any ops listed).isEmpty
 |i::r,listed=>Kz .any ops listed==[i]&&Zhf ops r (listed.setIfInBounds i true)
def Zv5 (ops:Array Oper) (p1 p2:List Nat):Bool:=
 KH ops&&p1.length+p2.length==ops.size&&match ZaX ops p1 (Array.replicate ops.size false) with
  |some listed=>Zhf ops p2 listed
  |none=>false
def ZaQ (P:Program) (ops:Array Oper) (S:World->Prop) (Q:Exit->Act->World->Prop):List Oper->Act->World->Prop
 |[],a,w=>Q .normal a w
 |o::rest,a,w=>if KR o (yielded ops a.tmps) then o.wp P a w (fun a' w'=>S w'/\ZaQ P ops S Q rest a' w') Q else S w/\ZaQ P ops S Q rest (a.put o.dst undef) w
section
variable {P:Program} {ops:Array Oper} {S:World->Prop} {Q:Exit->Act->World->Prop}
theorem ZX {o:Oper} {rest:List Oper} {a:Act} {w:World} (hg:o.guard=none) (h: ∀ K:Act->World->Prop,(∀ a w,S w->ZaQ P ops S Q rest a w->K a w)->o.wp P a w K Q):ZaQ P ops S Q (o::rest) a w:=by
 unfold ZaQ;rw[if_pos F6];exact h _ fun a w b c=>⟨b,c⟩
theorem Zfg {a:Act} {w:World} (h:Q .normal a w):ZaQ P ops S Q [] a w:=h
theorem ZfN: ∀ (p:List Nat) (l:List Oper) (listed:Array Bool) (a:Act) (w:World),p.map (ops[·]?)=l.map some->Zhf ops p listed=true->ZaQ P ops S Q l a w->wpAnyH P .any ops Q S p.length listed a w
 |[],[],listed,a,w,_,hB,h=>⟨by simpa [Zhf] using hB,h⟩
 |[],_::_,_,_,_,hl,_,_=>Da
 |_::_,[],_,_,_,hl,_,_=>Da
 |i::p,o::l,listed,a,w,hl,hB,h=>by
  simp only[JV,List.cons.injEq] at hl;simp only[Zhf,JQ,beq_iff_eq] at hB;refine wpAnyH_all hB.1 Θ fun j hj=> ?_;obtain rfl:=List.mem_singleton.1 hj;unfold wpOp;simp only[hl.1];unfold ZaQ at h;split
  ·rename_i hw;rw[if_pos hw] at h;exact .inl (Oper.wp_mono (fun a' w' h'=>⟨h'.1,ZfN p l _ a' w' hl.2 hB.2 h'.2⟩) h)
  ·rename_i hw;rw[if_neg hw] at h;exact ⟨h.1,ZfN p l _ _ w hl.2 hB.2 h.2⟩
theorem Zii (hsel:KH ops=true) (hQ: ∀ c (a:Act) d v w,Q (.panic c) (a.put (some d) v) w->Q (.panic c) a w) {p2:List Nat} {l2:List Oper} {w:World} (hS:S w) (h2:p2.map (ops[·]?)=l2.map some):
  ∀ (p:List Nat) (l:List Oper) (listed listed':Array Bool) (a:Act),p.map (ops[·]?)=l.map some->ZaX ops p listed=some listed'->Zhf ops p2 listed'=true->wpQuiet P ops S (fun a'=>ZaQ P ops S Q l2 a' w) l a->wpAnyH P .any ops Q S (p.length+p2.length) listed a w
 |[],[],listed,listed',a,_,hF,hB,h=>by simp only[ZaX,L7] at hF;subst hF;simpa using ZfN p2 l2 listed a w h2 hB h
 |[],_::_,_,_,_,hl,_,_,_=>Da
 |_::_,[],_,_,_,hl,_,_,_=>Da
 |i::p,o::l,listed,listed',a,hl,hF,hB,h=>by
  simp only[JV,List.cons.injEq] at hl;simp only[ZaX] at hF;split at hF
  ·rename_i hc;simp only[JQ,hl.1,Option.map_some,Option.getD_some] at hc;obtain ⟨⟨hr,hf⟩,hp,hd⟩:=hc;obtain ⟨d,hd⟩:=Option.isSome_iff_exists.1 hd;have ih:=fun a' h'=>Zii hsel hQ hS h2 p l _ listed' a' hl.2 hF hB h';rw[List.length_cons,Nat.add_right_comm];unfold wpQuiet at h;by_cases hw:KR o (yielded ops a.tmps)=true
   ·rw[if_pos hw] at h;obtain ⟨v,hv,hK⟩:=h;refine wpAnyH_take (v:=v) hl.1 hsel hf hr (fun c a w hh=>Cl) (.inl ⟨hw,fun w' hw'=> ?_⟩) hS (ih _ hK);exact Gn
   ·exact I7
  ·cases hF
def ZcC (l:List Oper):List Nat->List Oper
 |[]=>[]
 |i::r=>match l[i]? with
  |some o=>o::ZcC l r
  |none=>ZcC l r
theorem Zch {l:List Oper}: ∀ {p:List Nat},(p.all (· <l.length))=true->p.map (l.toArray[·]?)=(ZcC l p).map some
 |[],_=>rfl
 |i::r,h=>by simp only[List.all_cons,JQ,decide_eq_true_eq] at h;have h1:l[i]? =some l[i]:=JR h.1;simp only[JV,ZcC,h1,Zch h.2];simp[h1]
theorem Zd1 {id:Nat} {l:List Oper} {a:Act} {w:World} (p1 p2:List Nat) (hm:P.follows .mixedOrders=true) (hB:(Zv5 l.toArray p1 p2&&(p1.all (· <l.length)&&p2.all (· <l.length)))=true)
  (hQ: ∀ c (a:Act) d v w,Q (.panic c) (a.put (some d) v) w->Q (.panic c) a w) (hS:S w.drew)
  (h:wpQuiet P l.toArray S (fun a'=>ZaQ P l.toArray S Q (ZcC l p2) a' w.drew) (ZcC l p1) a):(Code.region id l.toArray true).wp P Q a w:=by
 simp only[Zv5,JQ,beq_iff_eq] at hB;obtain ⟨⟨⟨e,f⟩,hB⟩,g,i⟩:=hB;refine wp_region_held (S:=S) hm ?_;split at hB
 ·rename_i b j;have:=Zii (P:=P) (S:=S) (Q:=Q) e hQ hS (Zch i) p1 _ _ b a (Zch g) j hB h;rw[f] at this;exact this
 ·cases hB
end
theorem ZeM {i:Nat} {f:Nat->α} (h:i<n):((List.range n).map f)[i]? =some (f i):=by
 simp[h]
theorem ZH {l:List α} {x:α} (h:l[k]? =some x):l.take (k+1)=l.take k++[x]:=by
 rw[List.take_add_one,h];rfl
theorem Z5 {l:List α} (hl:l.length=n):l.take n=l:=by rw[←hl];exact Mi
theorem StT.loadAt {ty:TypeId} (h:StT P ty cs.length) {o:Nat} (hc: ∀ j v,cs[j]? =some v->w.cell? ⟨g,o+j,none⟩=some v):(loadVar ty ⟨g,o,none⟩).run P w= .ok (.agg cs.toArray) w:=by
 obtain ⟨l,d,c⟩:=h;have e:(loadCells ⟨g,o,none⟩ cs.length).run P w= .ok cs.toArray w:=
  run_loadCells_list (P:=P) w ⟨g,o,none⟩ cs (fun j v f=>by rw[show (⟨g,o,none⟩:Addr).add j=⟨g,o+j,none⟩ by unfold Addr.add;split<;>simp_all];exact hc j v f)
 cases b:P.info? ty with
 |none=>simp[b] at c
 |some i=>
  have k:i.size=cs.length:=by simpa [b] using c
  have a:(isAgg ty).run P w= .ok true w:=by unfold isAgg;rw[KA,run_underlying d w];simp
  simp[loadVar,KA,a,sizeOf,typeInfo,b,k,e]
theorem ZF {o:Oper} {a:Act} {ty:TypeId} {f:Nat} (hty:StT P ty 3) (ho:o.op= .load ty x) (hx:a.eval x= .pointer (some ⟨g,f,none⟩))
  (hv: ∀ w',C w'->w'.cell? ⟨g,f,none⟩=some u/\w'.cell? ⟨g,f+1,none⟩=some v/\w'.cell? ⟨g,f+2,none⟩=some z) (hk:K (a.put o.dst (.agg #[u,v,z]))):o.quiet P a C K:=by
 refine ⟨.agg #[u,v,z],fun w d=> ?_,hk⟩;obtain ⟨e,i,k⟩:=hv w d;have h:=StT.loadAt (cs:=[u,v,z]) hty (w:=w) (g:=g) (o:=f) (fun j c b=>by
  match j,b with
  |0,b=>simp at b;subst b;exact e
  |1,b=>simp at b;subst b;exact i
  |2,b=>simp at b;subst b;exact k)
 exact Io
theorem Zd5 {o:Oper} {a:Act} {ty:TypeId} {b:Nat} (hty:StT P ty 2) (ho:o.op= .load ty x) (hx:a.eval x= .pointer (some ⟨b,j,none⟩))
  (hv: ∀ w',C w'->w'.cell? ⟨b,j,none⟩=some u/\w'.cell? ⟨b,j+1,none⟩=some v) (hk:K (a.put o.dst (.agg #[u,v]))):o.quiet P a C K:=by
 refine ⟨.agg #[u,v],fun w h=> ?_,hk⟩;obtain ⟨k,l⟩:=hv w h;obtain ⟨s,m,n⟩:=hty;obtain ⟨i,e,p⟩:=Option.map_eq_some_iff.1 n;have r:(isAgg ty).run P w= .ok true w:=by simp[isAgg,run_underlying m]
 have f:(sizeOf ty).run P w= .ok 2 w:=by simp[sizeOf,typeInfo,e,p]
 have g:=run_loadCells_list (P:=P) (w:=w) ⟨b,j,none⟩ [u,v] (fun q x c=>by
  match q,c with
  |0,c=>simp at c;subst c;simpa [Addr.add] using k
  |1,c=>simp at c;subst c;simpa [Addr.add] using l
  |q+2,c=>simp at c)
 simp only[show ([u,v]:List Value).length=2 from rfl] at g;have d:(loadVar ty ⟨b,j,none⟩).run P w= .ok (.agg #[u,v]) w:=by simp[loadVar,r,f,g]
 unfold Oper.quietAt execOp;simp[ho,hx,Instr.loadAt,Instr.sureAddr,d,Oper.quietUpon]
theorem putP:(∀ (a:Act) (d:Tmp) (v:Value),a.put (some d) v={a with tmps:=a.tmps.setIfInBounds d v})/\(∀ (a:Act) (v:Value),a.put none v=a)/\(∀ {α:Type} (l:List α) (i:Nat) (x:α),l.toArray.setIfInBounds i x=(l.set i x).toArray)/\(∀ {α:Type} (l:List α) (a b:α) (n:Nat),(a::l).set (n+1) b=a::l.set n b)/\ ∀ {α:Type} (l:List α) (a b:α),(a::l).set 0 b=b::l:=⟨fun _ _ _=>rfl,fun _ _=>rfl,fun _ _ _=>Θ,fun _ _ _ _=>rfl,fun _ _ _=>rfl⟩
def Zus (P:Program) (ty:TypeId):Bool:=match P.underlying ty with
 |none=>false
 |some (.struct _)=>false
 |some (.array _ _)=>false
 |some _=>true
theorem CellT.of {ty:TypeId} (h:Zus P ty=true):CellT P ty:=by
 unfold Zus at h;split at h
 ·cases h
 ·cases h
 ·cases h
 ·rename_i d a b c;exact ⟨d,c,fun f e=>a f e,fun n e g=>b n e g⟩
def stB (P:Program) (ty:TypeId) (n:Nat):Bool:=(match P.underlying ty with
 |some (.struct _)=>true
 |_=>false)&&(P.info? ty).map (·.size)==some n
theorem StT.of {ty:TypeId} (h:stB P ty n=true):StT P ty n:=by
 simp only[stB,JQ,beq_iff_eq] at h;obtain ⟨a,b⟩:=h;split at a
 ·rename_i c d;exact ⟨c,d,b⟩
 ·cases a
structure Wr (Q:Prop):Prop where
 o:Q
theorem nAs {P:Prop} (h:P:=by first |assumption|exact ⟨Af,Af⟩|exact Ne.symm Af|(simp;done)|(simp;omega)|(simp<;>omega)):P:=h
theorem aR {P:Prop} (h:P:=by with_reducible assumption):P:=h
theorem Zh {P:Prop} (k:Q) (h:Wr Q->P:=by
 intro k;show wpQuiet _ _ _ _ _ _
 (try (conv=>arg 6;simp only[putP]))
 (repeat (show wpQuiet _ _ _ _ (_::_) _;(first |(go_big_quiet_want;(first |refine Zw (CellT.of Aj) rfl rfl (fun _ h=>h.cell aR) ?_|refine Zw (CellT.of Aj) rfl rfl (fun _ h=>h.cell nAs aR) ?_|refine Zaw (StT.of Ξ) rfl rfl (fun _ h=>Blk.grow aR h) ?_|refine Zaw (StT.of Ξ) rfl rfl (fun _ h=>Blk.keep aR h nAs) ?_|refine ZF (StT.of Aj) rfl rfl (fun _ h=>⟨h.cell aR,h.cell aR,h.cell aR⟩) ?_|refine ZF (StT.of Aj) rfl rfl (fun _ h=>⟨h.cell nAs aR,h.cell nAs aR,h.cell nAs aR⟩) ?_|refine Zd5 (StT.of Aj) rfl rfl (fun _ h=>⟨h.cell aR,h.cell aR⟩) ?_|refine Zd5 (StT.of Aj) rfl rfl (fun _ h=>⟨h.cell nAs aR,h.cell nAs aR⟩) ?_|refine Zfd (StT.of Aj) rfl rfl (fun _ h=>DAt.grow aR h) ?_|refine ZiP rfl aR ?_|refine ZeH rfl aR ?_|refine Zie rfl aR ?_|refine Zw (CellT.of Aj) rfl rfl (fun _ h=>h.cell Af) ?_|refine Zw (CellT.of Aj) rfl rfl (fun _ h=>h.cell nAs Af) ?_|refine Zaw (StT.of Ξ) rfl rfl (fun _ h=>Blk.grow Af h) ?_|refine Zaw (StT.of Ξ) rfl rfl (fun _ h=>Blk.keep Af h nAs) ?_|refine ZF (StT.of Aj) rfl rfl (fun _ h=>⟨h.cell Af,h.cell Af,h.cell Af⟩) ?_|refine ZF (StT.of Aj) rfl rfl (fun _ h=>⟨h.cell nAs Af,h.cell nAs Af,h.cell nAs Af⟩) ?_|refine Zd5 (StT.of Aj) rfl rfl (fun _ h=>⟨h.cell Af,h.cell Af⟩) ?_|refine Zd5 (StT.of Aj) rfl rfl (fun _ h=>⟨h.cell nAs Af,h.cell nAs Af⟩) ?_|refine Zfd (StT.of Aj) rfl rfl (fun _ h=>DAt.grow Af h) ?_|refine ZiP rfl Af ?_|refine ZeH rfl Af ?_|refine Zie rfl Af ?_);go_big_quiet_on;simp only[putP])|go_big_quiet_step (exact fun _=>rfl))))
 refine wpQuiet_nil ?_;exact k.o):P:=h ⟨k⟩
theorem ZmW {P:Prop} (a:A) (k:Q) (h:A->Wr Q->P:=by intro a k;exact Zh k.o):P:=h a ⟨k⟩
theorem Zux {P:Prop} (a:A) (b:B) (k:Q) (h:A->B->Wr Q->P:=by intro a b k;exact Zh k.o):P:=h a b ⟨k⟩
theorem ZuD {P C:Prop} (a:A) (b:B) (c:C) (k:Q) (h:A->B->C->Wr Q->P:=by intro a b c k;exact Zh k.o):P:=h a b c ⟨k⟩
theorem al1 (w:World) (c0:Array Value) (t0:TypeId): ∃ w',w'=w.alloc (.cells c0 t0)/\Grow w w'/\Blk w' (w.heap.size) c0 t0/\w'.heap.size=w.heap.size+1:=⟨_,rfl,(Grow.refl w).alloc _ _,Blk.new _ _ _,Θ⟩
theorem al2 (w:World) (c0:Array Value) (t0:TypeId) (c1:Array Value) (t1:TypeId): ∃ w',w'=(w.alloc (.cells c0 t0)).alloc (.cells c1 t1)/\Grow w w'/\Blk w' (w.heap.size) c0 t0/\Blk w' (w.heap.size+1) c1 t1/\w'.heap.size=w.heap.size+1+1:=⟨_,rfl,((Grow.refl w).alloc _ _).alloc _ _,(Blk.new _ _ _).alloc _,Blk.newAt _ _ _ Θ,Θ⟩
theorem al3 (w:World) (c0:Array Value) (t0:TypeId) (c1:Array Value) (t1:TypeId) (c2:Array Value) (t2:TypeId): ∃ w',w'=((w.alloc (.cells c0 t0)).alloc (.cells c1 t1)).alloc (.cells c2 t2)/\Grow w w'/\Blk w' (w.heap.size) c0 t0/\Blk w' (w.heap.size+1) c1 t1/\Blk w' (w.heap.size+1+1) c2 t2/\w'.heap.size=w.heap.size+1+1+1:=⟨_,rfl,(((Grow.refl w).alloc _ _).alloc _ _).alloc _ _,((Blk.new _ _ _).alloc _).alloc _,(Blk.newAt _ _ _ Θ).alloc _,Blk.newAt _ _ _ Θ,Θ⟩
theorem al4 (w:World) (c0:Array Value) (t0:TypeId) (c1:Array Value) (t1:TypeId) (c2:Array Value) (t2:TypeId) (c3:Array Value) (t3:TypeId): ∃ w',w'=(((w.alloc (.cells c0 t0)).alloc (.cells c1 t1)).alloc (.cells c2 t2)).alloc (.cells c3 t3)/\Grow w w'/\Blk w' (w.heap.size) c0 t0/\Blk w' (w.heap.size+1) c1 t1/\Blk w' (w.heap.size+1+1) c2 t2/\Blk w' (w.heap.size+1+1+1) c3 t3/\w'.heap.size=w.heap.size+1+1+1+1:=⟨_,rfl,((((Grow.refl w).alloc _ _).alloc _ _).alloc _ _).alloc _ _,(((Blk.new _ _ _).alloc _).alloc _).alloc _,((Blk.newAt _ _ _ Θ).alloc _).alloc _,(Blk.newAt _ _ _ Θ).alloc _,Blk.newAt _ _ _ Θ,Θ⟩

end Go.Proofs.YtgjefeiddfjjnaaGreatDoor

namespace Go.Proofs.YtgjefeiddfjjnaaGreatDoor
open Go.ChangeShapes Go.WideShapes Go.ChangeAt Go.RowKit
theorem Zi9 {H:Type} {enc:TypeId×Value->H} {P:Program} (hl:laidOutB P=true) {W W':World} (hg:Grow W W') (sp:Nat->Bool):
  ∀ (ts:List TypeId) (vs:List Value) (ds:List (DataW H)) (ps:List MemPlace),(∀ t∈ts,P.readableRec t=true/\t<P.types.size)->
   DataW.TrodAll enc P W 0 (fun _=>true) true ts vs ds ps->(∀ x∈ps,x.block<W.heap.size/\sp x.block=true)->DataW.TrodAll enc P W' 0 sp true ts vs ds ps
 |[],vs,ds,ps,_,h,_=>by obtain ⟨rfl,rfl,rfl⟩:=trodAll_nil h;exact trodAll_mk0
 |t::ts,vs,ds,ps,hp,h,hlt=>by
  obtain ⟨v,vs',d,ds',p,q,rfl,rfl,rfl,h1,h2⟩:=trodAll_cons h;have ht:=hp t (List.mem_cons_self)
  exact ⟨p,q,WideElems.Trod_stays hl ht.1 ht.2 h1 (fun x hx=>hg.below.same (hlt x (List.mem_append_left _ hx)).1) (fun x hx=>(hlt x (List.mem_append_left _ hx)).2),
   Zi9 hl hg sp ts vs' ds' q (fun u hu=>hp u (List.mem_cons_of_mem _ hu)) h2 (fun x hx=>hlt x (List.mem_append_right _ hx)),rfl⟩
theorem ZqI {H:Type} {enc:TypeId×Value->H} {P:Program} {f:Func} {s:ChangeSpec} {apart fresh handsOn again:Bool} {W W':World} {args:Array Value} {v:Value} {ds gs:List (DataW H)} {before pa pv:List MemPlace}
  (hW:DataW.Whole enc P f.params.toList s.vars apart W args.toList ds gs before)
  (hres: ∀ (b:Nat) (sp:Nat->Bool) (hd:Bool),DataW.TrodAll enc P W' b sp hd f.resultTypes.toList (v.resultList f.resultTypes.size) (s.fn H (ds++gs)).results [])
  (hargs: ∀ sp:Nat->Bool,(∀ p∈before,sp p.block=true)->DataW.TrodAll enc P W' 0 sp true f.params.toList args.toList (s.fn H (ds++gs)).args pa)
  (hvars: ∀ sp:Nat->Bool,(∀ p∈before,sp p.block=true)->DataW.TrodVars enc P W' sp s.vars (s.fn H (ds++gs)).vars pv)
  (hps:before=pa++pv) (hk:W.keptBut W' (· ∈before)) (hfz: ∀ a:Addr,a.block<W.heap.size->W'.frozen? a=W.frozen? a)
  (hok: ∀ (j:Nat) (t:TypeId) (r:Value),f.resultTypes[j]? =some t->(v.resultList f.resultTypes.size)[j]? =some r->Value.okWide P W' .any 0 t r):
  s.post enc P f apart fresh handsOn again W args v W':=by
 have e:=fun p c=>hW.lt p c;have d: ∀ p∈before,(fun b=>decide (b<W.heap.size)) p.block=true:=fun p c=>by simpa using e p c
 refine ⟨ds,gs,before,[],pa,pv,hW,hres _ _ _,hargs _ d,hvars _ d,World.keptBut_mono (fun p c=>⟨c, ?_⟩) hk,fun _=> ?_⟩
 ·rw[hps,List.mem_append] at c;exact Or.inr c
 ·obtain ⟨_,_,_,_,_,i,k⟩:=hW;refine ⟨hok,_,_,([]++pa)++pv,⟨[]++pa,pv,trodAll_append (hargs _ (fun _ _=>rfl)) (hres _ _ _),hvars _ (fun _ _=>rfl),rfl, ?_, ?_⟩, ?_⟩
  ·intro b g c;have h:MemPlace.cell b g∈before:=(by rw[hps];simpa using c);rw[hfz _ (e _ h)];exact i b g h
  ·intro l;have:=k l;rw[hps] at this;exact Ji
  ·intro p c _;rw[hps];simpa using c
section
variable {H:Type} {enc:TypeId×Value->H} {P:Program} {w:World}
end
end Go.Proofs.YtgjefeiddfjjnaaGreatDoor

namespace Go.Proofs.YtgjefeiddfjjnaaGreatDoor
open Go.RowKit
open _root_.Array renaming getElem?_eq_some_iff->LG,range->OL,replicate->KQ
open Bool renaming and_eq_true->JQ,or_eq_true->LW
open List renaming all_eq_true->Kn,getElem?_eq_getElem->JR,length_cons->Kw,map_cons->JV,map_nil->Kj,map_toArray->L5,mem_cons->JU,mem_cons_of_mem->L8,mem_cons_self->LJ,mem_range->JW,mem_singleton->Kv,range->JN
open Nat renaming add_mul->Ki,add_right_comm->MU,le_refl->JM
open Option renaming getD_some->MC,isSome_iff_exists->Ml,map_some->KI
open Option.some renaming inj->JJ,injEq->L7
open Region renaming Mode->MV,binds->Lp,free_spec->OP,noSelect->KH,noSelect_spec->OO,ready->Kz,wanted->KR
open Result renaming andThen_ok->KM
open Sem renaming run_bind->KA,run_pure->La
open Go.Proofs.Tryz renaming prog->JG,underlying35->OJ
open Go.Proofs.Tryz
variable {A B:Prop} {K N:Act->World->Prop} {P:Program} {Q:Exit->Act->World->Prop} {S:World->Prop} {T:Nat->Prop} {a:Act} {b p:Option Addr} {bytes c cap id last m n sz:Nat} {cs news:List Value} {e t:TypeId} {l:List Oper} {o:Oper} {ops:Array Oper} {s x:Operand} {w:World} {z:Value}
theorem Zwk:ownKnob JG.godebug=none:=Ξ
theorem ZvT:laidOutB JG=true:=Ξ
theorem ZaB:prog.follows .mixedOrders=true:=Ξ
theorem T_ints:SlT JG 35 3 (.int .i64 0) 1 8:=SlT.mk' OJ Ξ rfl
theorem Zlo:SlT JG 94 35 (.slice none 0 0) 1 24:=SlT.mk' underlying94 Ξ rfl
theorem Zb6:CellT JG 3:=CellT.int underlying3
theorem Zhn:CellT JG 35:=CellT.slice OJ
theorem ZeZ:CellT JG 4:=CellT.bool underlying4
theorem Zc:StT JG 37 3:=⟨_,underlying37,Ξ⟩
def inB (x lo hi:Int):Bool:=decide (lo<=x)&&decide (x<=hi)
theorem ZaU (x lo hi:Int) (w:World):Calls JG 49 #[.int .i64 x, .int .i64 lo, .int .i64 hi] w fun e w'=>e= .returned (.bool (inB x lo hi))/\w=w':=by
 unfold inB;by_cases h1:lo<=x
 ·have a:decide (lo<=x)=true:=C8
  exact Jj
 ·have a:decide (lo<=x)=false:=C8
  exact Jj
def Zcf (ops:Array Oper):List (List Nat×Option Nat)->Array Bool->Bool
 |[],listed=>(Kz .any ops listed).isEmpty
 |(fs,none)::r,listed=>match ZaX ops fs listed with
  |some l'=>Zcf ops r l'
  |none=>false
 |(fs,some i)::r,listed=>match ZaX ops fs listed with
  |some l'=>Kz .any ops l'==[i]&&Zcf ops r (l'.setIfInBounds i true)
  |none=>false
def ZdG:List (List Nat×Option Nat)->Nat
 |[]=>0
 |(fs,none)::r=>fs.length+ZdG r
 |(fs,some _)::r=>fs.length+(ZdG r+1)
def Zb3 (n:Nat):List (List Nat×Option Nat)->Bool
 |[]=>true
 |(fs,none)::r=>fs.all (· <n)&&Zb3 n r
 |(fs,some i)::r=>fs.all (· <n)&&(decide (i<n)&&Zb3 n r)
def Zdp (P:Program) (ops:Array Oper) (l:List Oper) (S:World->Prop) (Q:Exit->Act->World->Prop):List (List Nat×Option Nat)->Act->World->Prop
 |[],a,w=>Q .normal a w
 |(fs,none)::r,a,w=>wpQuiet P ops S (fun a'=>Zdp P ops l S Q r a' w) (ZcC l fs) a
 | (fs, some i) :: r, a, w => wpQuiet P ops S (fun a' => match l[i]? with
   |some o=>if KR o (yielded ops a'.tmps) then o.wp P a' w (fun a2 w2=>S w2/\Zdp P ops l S Q r a2 w2) Q else S w/\Zdp P ops l S Q r (a'.put o.dst undef) w
   |none=>False) (ZcC l fs) a
section
variable {P:Program} {ops:Array Oper} {S:World->Prop} {Q:Exit->Act->World->Prop}
theorem ZdN (hsel:KH ops=true) (hQ: ∀ c (a:Act) d v w,Q (.panic c) (a.put (some d) v) w->Q (.panic c) a w) {w:World} (hS:S w) (n2:Nat) (K:Act->Prop):
  ∀ (p:List Nat) (l:List Oper) (listed listed':Array Bool) (a:Act),p.map (ops[·]?)=l.map some->ZaX ops p listed=some listed'->wpQuiet P ops S K l a->(∀ a',K a'->wpAnyH P .any ops Q S n2 listed' a' w)->wpAnyH P .any ops Q S (p.length+n2) listed a w
 |[],[],listed,listed',a,_,hF,h,hK=>by simp only[ZaX,L7] at hF;subst hF;simpa using hK a h
 |[],_::_,_,_,_,hl,_,_,_=>Da
 |_::_,[],_,_,_,hl,_,_,_=>Da
 |i::p,o::l,listed,listed',a,hl,hF,h,hK=>by
  simp only[JV,List.cons.injEq] at hl;simp only[ZaX] at hF;split at hF
  ·rename_i hc;simp only[JQ,hl.1,KI,MC] at hc;obtain ⟨⟨hr,hf⟩,hp,hd⟩:=hc;obtain ⟨d,hd⟩:=Ml.1 hd;have ih:=fun a' h'=>ZdN hsel hQ hS n2 K p l _ listed' a' hl.2 hF h' hK;rw[Kw,MU];unfold wpQuiet at h;by_cases hw:KR o (yielded ops a.tmps)=true
   ·rw[if_pos hw] at h;obtain ⟨v,hv,hK'⟩:=h;refine wpAnyH_take (v:=v) hl.1 hsel hf hr (fun c a w hh=>Cl) (.inl ⟨hw,fun w' hw'=> ?_⟩) hS (ih _ hK');exact Gn
   ·exact I7
  ·cases hF
theorem ZcG (l:List Oper) (hops:ops=l.toArray) (hsel:KH ops=true) (hQ: ∀ c (a:Act) d v w,Q (.panic c) (a.put (some d) v) w->Q (.panic c) a w):
  ∀ (sg:List (List Nat×Option Nat)) (listed:Array Bool) (a:Act) (w:World),S w->Zb3 l.length sg=true->Zcf ops sg listed=true->Zdp P ops l S Q sg a w->wpAnyH P .any ops Q S (ZdG sg) listed a w
 |[],listed,a,w,hS,_,hB,h=>⟨by simpa [Zcf] using hB,h⟩
 |(fs,none)::r,listed,a,w,hS,hin,hB,h=>by
  simp only[Zcf] at hB;simp only[Zb3,JQ] at hin;split at hB
  ·rename_i listed' hF;exact ZdN hsel hQ hS _ _ fs (ZcC l fs) listed listed' a Du hF h fun a' h'=>ZcG l hops hsel hQ r listed' a' w hS hin.2 hB h'
  ·cases hB
 |(fs,some i)::r,listed,a,w,hS,hin,hB,h=>by
  simp only[Zcf] at hB;simp only[Zb3,JQ,decide_eq_true_eq] at hin;split at hB
  ·rename_i listed' hF;simp only[JQ,beq_iff_eq] at hB;have hi:l[i]? =some l[i]:=JR hin.2.1;refine ZdN hsel hQ hS _ _ fs (ZcC l fs) listed listed' a Du hF h fun a' h'=> ?_;simp only[hi] at h';refine wpAnyH_all hB.1 Θ fun j hj=> ?_;obtain rfl:=Kv.1 hj;unfold wpOp;have ho:ops[j]? =some l[j]:=(by rw[hops];simp);simp only[ho];split
   ·rename_i hw;rw[if_pos hw] at h';exact .inl (Oper.wp_mono (fun a2 w2 h2=>⟨h2.1,ZcG l hops hsel hQ r _ a2 w2 h2.1 hin.2.2 hB.2 h2.2⟩) h')
   ·rename_i hw;rw[if_neg hw] at h';exact ⟨h'.1,ZcG l hops hsel hQ r _ _ w hS hin.2.2 hB.2 h'.2⟩
  ·cases hB
end
theorem Zg4 (sg:List (List Nat×Option Nat)) (hm:P.follows .mixedOrders=true)
  (hB:(KH l.toArray&&(ZdG sg==l.length&&(Zb3 l.length sg&&Zcf l.toArray sg (KQ l.length false))))=true)
  (hQ: ∀ c (a:Act) d v w,Q (.panic c) (a.put (some d) v) w->Q (.panic c) a w) (hS:S w.drew) (h:Zdp P l.toArray l S Q sg a w.drew):(Code.region id l.toArray true).wp P Q a w:=by
 simp only[JQ,beq_iff_eq] at hB;obtain ⟨b,f,e,g⟩:=hB;refine wp_region_held (S:=S) hm ?_;have:=ZcG (P:=P) (Q:=Q) l rfl b hQ sg _ a _ hS e g h;rw[f] at this;exact Ji
theorem Zu (hw:KR o (yielded ops a.tmps)=true)
  (h: ∀ K:Act->World->Prop,(∀ a w,S w->N a w->K a w)->o.wp P a w K Q):if KR o (yielded ops a.tmps)=true then o.wp P a w (fun a2 w2=>S w2/\N a2 w2) Q else S w/\N (a.put o.dst undef) w:=by
 rw[if_pos hw];exact h _ fun a w b c=>⟨b,c⟩
theorem Zdz (hw:KR o (yielded ops a.tmps)=false) (hS:S w)
  (h:N (a.put o.dst undef) w):if KR o (yielded ops a.tmps)=true then o.wp P a w (fun a2 w2=>S w2/\N a2 w2) Q else S w/\N (a.put o.dst undef) w:=by
 rw[if_neg (by rw[hw];simp)];exact ⟨hS,h⟩
theorem Ze (h:Q .normal a w):Zdp P ops l S Q [] a w:=h
theorem ZaH (sg:List (List Nat×Option Nat)) (h:Zdp P l.toArray l (Grow w) Q sg a w.drew) (hm:P.follows .mixedOrders=true:=by exact ZaB)
  (hB:(KH l.toArray&&(ZdG sg==l.length&&(Zb3 l.length sg&&Zcf l.toArray sg (KQ l.length false))))=true:=by kernel_rfl) (hQ: ∀ c (a:Act) d v w,Q (.panic c) (a.put (some d) v) w->Q (.panic c) a w:=by exact fun _ _ _ _ _ h=>h):
  (Code.region id l.toArray true).wp P Q a w:=Zg4 sg hm hB hQ (Grow.refl _).drew h
theorem Zcr (T:Nat->Prop) (sg:List (List Nat×Option Nat)) (h:Zdp P l.toArray l (Keep T w) Q sg a w.drew) (hm:P.follows .mixedOrders=true:=by exact ZaB)
  (hB:(KH l.toArray&&(ZdG sg==l.length&&(Zb3 l.length sg&&Zcf l.toArray sg (KQ l.length false))))=true:=by kernel_rfl) (hQ: ∀ c (a:Act) d v w,Q (.panic c) (a.put (some d) v) w->Q (.panic c) a w:=by exact fun _ _ _ _ _ h=>h):
  (Code.region id l.toArray true).wp P Q a w:=Zg4 sg hm hB hQ (Keep.refl _ _).drew h
theorem ZR {P Q:Prop} (k:Q) (h:Wr Q->P:=by intro k;refine Zh ?_;refine Zu rfl ?_;intro K hK;go_wp2_with fail;revert hK;revert K;exact k.o):P:=h ⟨k⟩
theorem ZkP {P Q:Prop} (a:A) (k:Q) (h:A->Wr Q->P:=by intro a k;exact ZR k.o):P:=h a ⟨k⟩
theorem Zuu {P Q:Prop} (a:A) (b:B) (k:Q) (h:A->B->Wr Q->P:=by intro a b k;exact ZR k.o):P:=h a b ⟨k⟩
theorem Zjm {P Q C:Prop} (a:A) (b:B) (c:C) (k:Q) (h:A->B->C->Wr Q->P:=by intro a b c k;exact ZR k.o):P:=h a b c ⟨k⟩
def Zak (ops:Array Oper) (i:Nat):Option Tmp:=(ops[i]?).bind (·.dst)
def Zkd (ops:Array Oper) (R F:List Nat) (target:Array Bool):Nat->Array Bool->Bool
 |0,listed=>(R++F).all (fun i=>listed.getD i false)&&listed==target
 |n+1,listed=>match F.find? (fun i=>(Kz .any ops listed).contains i) with
  |some f=>Region.free .any ops listed f&&Zkd ops R F target n (listed.setIfInBounds f true)
  |none=> !(Kz .any ops listed).isEmpty&&(Kz .any ops listed).all fun i=>R.contains i&&Zkd ops R F target n (listed.setIfInBounds i true)
def ZfZ (ops:Array Oper) (sz:Nat):List Nat->Bool
 |[]=>true
 | i :: R => (match ops[i]? with
   | some o => o.guard.isNone && (match o.dst with
     |some d=>decide (d<sz)&&R.all (fun j=>Zak ops j !=some d)
     |none=>false)
   |none=>false)&&(!R.contains i&&ZfZ ops sz R)
def Zav (ops:Array Oper) (listed:Array Bool) (vs:Nat->Value):List Nat->Act->Act
 |[],a=>a
 |i::R,a=>Zav ops listed vs R (if listed.getD i false=true then a.put (Zak ops i) (vs i) else a)
def Zju (ops:Array Oper) (vs:Nat->Value):List Nat->Act->Act
 |[],a=>a
 |i::R,a=>Zju ops vs R (a.put (Zak ops i) (vs i))
section
variable {ops:Array Oper}
theorem Ziy {listed:Array Bool} {vs:Nat->Value} {d:Option Tmp} {v:Value}: ∀ {R:List Nat} {a:Act},(∀ j∈R, ∀ q,d=some q->Zak ops j≠some q)->Zav ops listed vs R (a.put d v)=(Zav ops listed vs R a).put d v
 |[],a,_=>rfl
 |i::R,a,h=>by
  unfold Zav;have h1: ∀ q,d=some q->Zak ops i≠some q:=h i (LJ);have h2: ∀ j∈R, ∀ q,d=some q->Zak ops j≠some q:=fun j hj=>h j (L8 _ hj);split
  ·rw[Act.put_comm a v (vs i) h1,Ziy h2]
  ·rw[Ziy h2]
theorem ZjA {listed listed':Array Bool} {vs vs':Nat->Value}: ∀ {R:List Nat} {a:Act},(∀ j∈R,listed.getD j false=listed'.getD j false/\vs j=vs' j)->Zav ops listed vs R a=Zav ops listed' vs' R a
 |[],a,_=>rfl
 |i::R,a,h=>by unfold Zav;obtain ⟨h1,h2⟩:=h i (LJ);rw[h1,h2];exact ZjA fun j hj=>h j (L8 _ hj)
theorem ZmC {listed:Array Bool} {vs:Nat->Value} {sz:Nat} {j:Nat} {v:Value}: ∀ {R:List Nat} {a:Act},ZfZ ops sz R=true->j∈R->j<listed.size->listed.getD j false=false->
  Zav ops (listed.setIfInBounds j true) (fun k=>if k=j then v else vs k) R a=(Zav ops listed vs R a).put (Zak ops j) v
 |[],a,_,hj,_,_=>by cases hj
 |i::R,a,hok,hj,hs,hf=>by
  simp only[ZfZ,JQ] at hok;obtain ⟨h1,h2,h3⟩:=hok;have hni:i∉R:=Cd
  by_cases e:i=j
  ·subst e;have hc:Zav ops (listed.setIfInBounds i true) (fun k=>if k=i then v else vs k) R (a.put (Zak ops i) v)=Zav ops listed vs R (a.put (Zak ops i) v):=
    ZjA fun k hk=>by have hki:k≠i:=fun e=>hni (e▸hk);exact ⟨by rw[getD_set_ne false (Ne.symm hki)],by simp[hki]⟩
   have hd: ∀ k∈R, ∀ q,Zak ops i=some q->Zak ops k≠some q:=fun k hk q hq e=>by
    cases ho:ops[i]? with
    |none=>rw[ho] at h1;simp at h1
    |some o=>
     rw[ho] at h1;cases hd:o.dst with
     |none=>simp[hd] at h1
     |some d=>simp[hd] at h1;have:q=d:=(by unfold Zak at hq;rw[ho] at hq;simp[hd] at hq;exact hq.symm);subst this;exact h1.2.2 k hk e
   have e1:Zav ops listed vs (i::R) a=Zav ops listed vs R a:=(by show Zav ops listed vs R (if listed.getD i false=true then a.put (Zak ops i) (vs i) else a)=_;rw[if_neg (by rw[hf];simp)]);have e2:Zav ops (listed.setIfInBounds i true) (fun k=>if k=i then v else vs k) (i::R) a=Zav ops (listed.setIfInBounds i true) (fun k=>if k=i then v else vs k) R (a.put (Zak ops i) v):=(by show Zav ops (listed.setIfInBounds i true) _ R (if (listed.setIfInBounds i true).getD i false=true then a.put (Zak ops i) (if i=i then v else vs i) else a)=_;rw[if_pos (by simp[hs]),if_pos rfl]);rw[e1,e2,hc,Ziy hd]
  ·have hjR:j∈R:=by
    rcases JU.1 hj with h|h
    ·exact (e h.symm).elim
    ·exact h
   unfold Zav;rw[getD_set_ne false (Ne.symm e),if_neg e];exact ZmC h3 hjR hs hf
theorem Zmc {listed:Array Bool} {vs:Nat->Value}: ∀ {R:List Nat} {a:Act},(∀ j∈R,listed.getD j false=true)->Zav ops listed vs R a=Zju ops vs R a
 |[],a,_=>rfl
 |i::R,a,h=>by unfold Zav Zju;rw[if_pos (h i (LJ))];exact Zmc fun j hj=>h j (L8 _ hj)
theorem ZkJ {listed:Array Bool} {vs:Nat->Value}: ∀ {R:List Nat} {a:Act},(∀ j∈R,listed.getD j false=false)->Zav ops listed vs R a=a
 |[],a,_=>rfl
 |i::R,a,h=>by unfold Zav;rw[if_neg (by rw[h i (LJ)];simp)];exact ZkJ fun j hj=>h j (L8 _ hj)
theorem Zpb {a:Act} {d:Option Tmp} {v:Value} {s:Nat} (h:d≠some s):(a.put d v).tmps.getD s undef=a.tmps.getD s undef:=by
 cases d with
 |none=>rfl
 |some q=>have:q≠s:=fun e=>h (by rw[e]);simp[Act.put,Array.getElem?_setIfInBounds_ne this]
theorem ZtC {a:Act} {d:Option Tmp} {v:Value}:(a.put d v).tmps.size=a.tmps.size:=by
 cases d<;>simp[Act.put]
theorem Zfl {listed:Array Bool} {vs:Nat->Value} {s:Nat}: ∀ {R:List Nat} {a:Act},(∀ j∈R,Zak ops j≠some s)->(Zav ops listed vs R a).tmps.getD s undef=a.tmps.getD s undef
 |[],a,_=>rfl
 |i::R,a,h=>by
  unfold Zav;rw[Zfl fun j hj=>h j (L8 _ hj)];split
  ·exact Zpb (h i (LJ))
  ·rfl
theorem ZnD {listed:Array Bool} {vs:Nat->Value} {j d:Nat}: ∀ {R:List Nat} {a:Act},ZfZ ops a.tmps.size R=true->j∈R->listed.getD j false=true->Zak ops j=some d->(Zav ops listed vs R a).tmps.getD d undef=vs j
 |[],a,_,hj,_,_=>by cases hj
 |i::R,a,hok,hj,hf,hd=>by
  have hok':=hok;simp only[ZfZ,JQ] at hok;obtain ⟨h1,h2,h3⟩:=hok;have hsz:(if listed.getD i false=true then a.put (Zak ops i) (vs i) else a).tmps.size=a.tmps.size:=by split<;>simp[ZtC]
  by_cases hjR:j∈R
  ·unfold Zav;exact ZnD (by rw[hsz];exact h3) hjR hf hd
  ·have e:j=i:=(by rcases JU.1 hj with h|h;exact h;exact (hjR h).elim);subst e;cases ho:ops[j]? with
   |none=>rw[ho] at h1;simp at h1
   |some o=>rw[ho] at h1;have hod:o.dst=some d:=(by unfold Zak at hd;rw[ho] at hd;simpa using hd);simp[hod] at h1;unfold Zav;rw[if_pos hf,Zfl fun k hk=>h1.2.2 k hk,hd];simp[Act.put,h1.2.1]
end
theorem Zok {ops:Array Oper} {sz:Nat}: ∀ {R:List Nat},ZfZ ops sz R=true-> ∀ i∈R, ∃ o d,ops[i]? =some o/\o.guard=none/\o.dst=some d/\d<sz
 |[],_,i,hi=>by cases hi
 |k::R,hok,i,hi=>by
  simp only[ZfZ,JQ] at hok;obtain ⟨h1,h2,h3⟩:=hok;rcases JU.1 hi with e|e
  ·subst e;cases ho:ops[i]? with
   |none=>rw[ho] at h1;simp at h1
   |some o=>
    rw[ho] at h1;cases hd:o.dst with
    |none=>simp[hd] at h1
    |some d=>simp[hd] at h1;exact ⟨o,d,rfl,h1.1,hd,h1.2.1⟩
  ·exact Zok h3 i e
section
variable {P:Program} {ops:Array Oper} {S:World->Prop} {T:Nat->Prop} {Q:Exit->Act->World->Prop}
theorem Zik {R F:List Nat} {target:Array Bool} {a0:Act} {n2:Nat} (hsel:KH ops=true) (hQ: ∀ c (a:Act) d v w,Q (.panic c) (a.put (some d) v) w->Q (.panic c) a w)
  (Post:Nat->Value->World->Prop) (ob:Nat->Value->Option Nat) (hst: ∀ i v w w',Keep T w w'->Post i v w->Post i v w') (hlt: ∀ i v w,Post i v w-> ∀ g,ob i v=some g->g<w.heap.size) (hob: ∀ i∈F, ∀ v,ob i v=none)
  (hok:ZfZ ops a0.tmps.size (R++F)=true) {w0:World}
  (step : ∀ i ∈ R, ∀ o, ops[i]? = some o → ∀ (a : Act) (w : World), Keep T w0 w → S w →
   (∀ j∈R++F,(∃ e∈o.after,Lp .any e=true/\e.on=j)-> ∀ d,Zak ops j=some d->Post j (a.tmps.getD d undef) w)->
   (∀ s,(∀ j∈R++F,Zak ops j≠some s)->a.tmps.getD s undef=a0.tmps.getD s undef)->
   ∀ K:Act->World->Prop,(∀ v w',Keep T w w'->S w'->Post i v w'->(∀ g,ob i v=some g->w.heap.size<=g)->K (a.put o.dst v) w')->o.wp P a w K Q)
  (stepF : ∀ i ∈ F, ∀ o, ops[i]? = some o → ∀ (a : Act) (w : World), Keep T w0 w → S w →
   (∀ j∈R++F,(∃ e∈o.after,Lp .any e=true/\e.on=j)-> ∀ d,Zak ops j=some d->Post j (a.tmps.getD d undef) w)->
   (∀ s,(∀ j∈R++F,Zak ops j≠some s)->a.tmps.getD s undef=a0.tmps.getD s undef)->
   ∃ v,(∀ w',S w'->(execOp a.eval o).run P w'= .ok (.value v) w')/\Post i v w)
  (fin: ∀ (vs:Nat->Value) (w:World),Keep T w0 w->S w->(∀ i∈R++F,Post i (vs i) w)->(∀ i∈R++F, ∀ j∈R++F,i≠j-> ∀ g,ob i (vs i)=some g->ob j (vs j)≠some g)->wpAnyH P .any ops Q S n2 target (Zju ops vs (R++F) a0) w):
  ∀ (n:Nat) (listed:Array Bool) (vs:Nat->Value) (w:World),Keep T w0 w->S w->listed.size=ops.size->Zkd ops R F target n listed=true->(∀ i∈R++F,listed.getD i false=true->Post i (vs i) w)->
   (∀ i∈R++F,listed.getD i false=true-> ∀ j∈R++F,listed.getD j false=true->i≠j-> ∀ g,ob i (vs i)=some g->ob j (vs j)≠some g)->
   wpAnyH P .any ops Q S (n+n2) listed (Zav ops listed vs (R++F) a0) w
 |0,listed,vs,w,hT,hS,_,hB,hI,hD=>by
  simp only[Zkd,JQ,beq_iff_eq] at hB;obtain ⟨hall,rfl⟩:=hB;have hall': ∀ j∈R++F,listed.getD j false=true:=fun j hj=>by simpa using Kn.1 hall j hj
  rw[Zmc hall',Nat.zero_add];exact fin vs w hT hS (fun i hi=>hI i hi (hall' i hi)) fun i hi j hj=>hD i hi (hall' i hi) j hj (hall' j hj)
 |n+1,listed,vs,w,hT,hS,hsz,hB,hI,hD=>by
  have next: ∀ (i:Nat) (v:Value) (w':World),i∈R++F->i<listed.size->listed.getD i false=false->Keep T w w'->S w'->Post i v w'->(∀ g,ob i v=some g->w.heap.size<=g)->Zkd ops R F target n (listed.setIfInBounds i true)=true->
    wpAnyH P .any ops Q S (n+n2) (listed.setIfInBounds i true) ((Zav ops listed vs (R++F) a0).put (Zak ops i) v) w':=by
   intro i v w' hiR hil hf hT' hS' hP hfr hrest;rw[←ZmC hok hiR hil hf];refine Zik hsel hQ Post ob hst hlt hob hok step stepF fin n _ _ w' (hT.trans hT') hS' (by simpa using hsz) hrest (fun j hj hl=> ?_) fun j hj hl k hk hl2 hne2 g hg1 hg2=> ?_
   ·by_cases e:j=i
    ·subst e;simpa using hP
    ·rw[getD_set_ne false (Ne.symm e)] at hl;simp only[e,if_false];exact hst j _ _ _ hT' (hI j hj hl)
   ·by_cases e:j=i
    ·subst e;have e2:k≠j:=fun e=>hne2 e.symm;rw[getD_set_ne false (Ne.symm e2)] at hl2;simp only[if_true] at hg1;simp only[e2,if_false] at hg2;have h1:=hfr g hg1;have h2:=hlt k _ _ (hI k hk hl2) g hg2;omega
    ·rw[getD_set_ne false (Ne.symm e)] at hl;simp only[e,if_false] at hg1;by_cases e2:k=i
     ·subst e2;simp only[if_true] at hg2;have h1:=hfr g hg2;have h2:=hlt j _ _ (hI j hj hl) g hg1;omega
     ·rw[getD_set_ne false (Ne.symm e2)] at hl2;simp only[e2,if_false] at hg2;exact hD j hj hl k hk hl2 hne2 g hg1 hg2
  have deps: ∀ (i:Nat) (o:Oper),ops[i]? =some o->i∈Kz .any ops listed-> ∀ j∈R++F,(∃ e∈o.after,Lp .any e=true/\e.on=j)-> ∀ d,Zak ops j=some d->Post j ((Zav ops listed vs (R++F) a0).tmps.getD d undef) w:=by intro i o ho hi j hj ⟨e,he,hb,hej⟩ dj hdj;obtain ⟨hun,o',ho',hall'⟩:=mem_ready.1 hi;obtain rfl:o'=o:=JJ (ho'.symm.trans ho);have hl:=hall' e he hb;rw[hej] at hl;rw[ZnD hok hj hl hdj];exact hI j hj hl
  have base: ∀ (i:Nat),i∈R++F->i∈Kz .any ops listed-> ∃ o,ops[i]? =some o/\o.guard=none/\Zak ops i=o.dst/\(∃ d,o.dst=some d)/\i<listed.size/\listed.getD i false=false:=by intro i hiR hi;obtain ⟨o,d,ho,hg,hd,hlt'⟩:=Zok hok i hiR;obtain ⟨hun,_⟩:=mem_ready.1 hi;have hil:i<listed.size:=(by rw[hsz];exact (LG.1 ho).1);exact ⟨o,ho,hg,by unfold Zak;rw[ho];rfl,⟨d,hd⟩,hil,by simpa [hil] using hun⟩
  simp only[Zkd] at hB;rw[MU];split at hB
  ·rename_i f hfind;simp only[JQ] at hB;obtain ⟨hfree,hrest⟩:=hB;have hfr:=List.find?_some hfind;have hfF:f∈F:=List.mem_of_find?_eq_some hfind;have hfR:f∈R++F:=List.mem_append_right _ hfF;have hready:f∈Kz .any ops listed:=(by simpa using hfr);obtain ⟨o,ho,hg,hdst,⟨d,hd⟩,hil,hf⟩:=base f hfR hready;obtain ⟨v,hv,hP⟩:=stepF f hfF o ho _ w hT hS (deps f o ho hready) (fun s hs=>Zfl hs);refine wpAnyH_take (v:=v) ho hsel hfree hfr (fun c a w hh=>Cl) (.inl ⟨F6,hv⟩) hS ?_;rw[←hdst];exact next f v w hfR hil hf (Keep.refl _ _) hS hP (fun g hg=>by rw[hob f hfF] at hg;cases hg) hrest
  ·simp only[JQ,Bool.not_eq_true',Kn] at hB;obtain ⟨hne,hall⟩:=hB;refine wpAnyH_all rfl (by intro e;rw[e] at hne;simp at hne) fun i hi=> ?_;obtain ⟨hR,hrest⟩:=hall i hi;have hiR0:i∈R:=(by simpa using hR);have hiR:i∈R++F:=List.mem_append_left _ hiR0;obtain ⟨o,ho,hg,hdst,⟨d,hd⟩,hil,hf⟩:=base i hiR hi;unfold wpOp;simp only[ho];rw[if_pos F6];refine .inl (step i hiR0 o ho _ w hT hS (deps i o ho hi) (fun s hs=>Zfl hs) _ fun v w' hT' hS' hP hfr=>⟨hS', ?_⟩);rw[←hdst];exact next i v w' hiR hil hf hT' hS' hP hfr hrest
end
structure Shut (p:Prop):Prop where
 out:p
def ZuC (P:Program) (ops:Array Oper) (l:List Oper) (S:World->Prop) (T:Nat->Prop) (Q:Exit->Act->World->Prop) (R F:List Nat) (sg:List (List Nat×Option Nat)) (a0:Act) (w0:World):Prop:=
 ZfZ ops a0.tmps.size (R++F)=true/\ ∃ (Post:Nat->Value->World->Prop) (ob:Nat->Value->Option Nat),(∀ i v w w',Keep T w w'->Post i v w->Post i v w')/\(∀ i v w,Post i v w-> ∀ g,ob i v=some g->g<w.heap.size)/\(∀ i∈F, ∀ v,ob i v=none)/\
  (∀ i ∈ R, ∀ o, ops[i]? = some o → ∀ (a : Act) (w : World), Keep T w0 w → S w →
   (∀ j∈R++F,(∃ e∈o.after,Lp .any e=true/\e.on=j)-> ∀ d,Zak ops j=some d->Post j (a.tmps.getD d undef) w)->
   (∀ s,(∀ j∈R++F,Zak ops j≠some s)->a.tmps.getD s undef=a0.tmps.getD s undef)->
   ∀ K:Act->World->Prop,(∀ v w',Keep T w w'->S w'->Post i v w'->(∀ g,ob i v=some g->w.heap.size<=g)->K (a.put o.dst v) w')->o.wp P a w K Q)/\
  (∀ i ∈ F, ∀ o, ops[i]? = some o → ∀ (a : Act) (w : World), Keep T w0 w → S w →
   (∀ j∈R++F,(∃ e∈o.after,Lp .any e=true/\e.on=j)-> ∀ d,Zak ops j=some d->Post j (a.tmps.getD d undef) w)->
   (∀ s,(∀ j∈R++F,Zak ops j≠some s)->a.tmps.getD s undef=a0.tmps.getD s undef)->
   ∃ v,(∀ w',S w'->(execOp a.eval o).run P w'= .ok (.value v) w')/\Post i v w)/\
  ∀ (vs:Nat->Value) (w:World),Keep T w0 w->S w->(∀ i∈R++F,Post i (vs i) w)->(∀ i∈R++F, ∀ j∈R++F,i≠j-> ∀ g,ob i (vs i)=some g->ob j (vs j)≠some g)->Shut (Zdp P ops l S Q sg (Zju ops vs (R++F) a0) w)
def Zc7 (n:Nat) (fs:List Nat):Array Bool:=fs.foldl (fun l i=>l.setIfInBounds i true) (KQ n false)
theorem Zhg {ops:Array Oper}: ∀ {fs:List Nat} {listed l':Array Bool},ZaX ops fs listed=some l'->l'=fs.foldl (fun l i=>l.setIfInBounds i true) listed
 |[],_,_,h=>by simp[ZaX] at h;simp[h]
 |i::fs,listed,l',h=>by
  simp only[ZaX] at h;split at h
  ·simpa using Zhg h
  ·cases h
theorem Zai (fs R F:List Nat) (sg:List (List Nat×Option Nat)) (hm:P.follows .mixedOrders=true)
  (hB : (KH l.toArray && ((fs.length + ((R ++ F).length + ZdG sg) == l.length && (fs.all (· < l.length) && Zb3 l.length sg)) && ((ZaX l.toArray fs (KQ l.length false)).isSome &&
   ((R++F).all (fun i=> !(Zc7 l.length fs).getD i false)&&(Zkd l.toArray R F (Zc7 l.length (fs++(R++F))) (R++F).length (Zc7 l.length fs)&&Zcf l.toArray sg (Zc7 l.length (fs++(R++F))))))))=true)
  (hQ: ∀ c (a:Act) d v w,Q (.panic c) (a.put (some d) v) w->Q (.panic c) a w) (hS:S w.drew) (h:wpQuiet P l.toArray S (fun a'=>ZuC P l.toArray l S T Q R F sg a' w.drew) (ZcC l fs) a):(Code.region id l.toArray true).wp P Q a w:=by
 simp only[JQ,beq_iff_eq] at hB;obtain ⟨b,⟨J,g,k⟩,L,x,M,N⟩:=hB;obtain ⟨G,m⟩:=Ml.1 L;have O:=Zhg m;have y:(Zc7 l.length fs).size=l.length:=by
  unfold Zc7;have: ∀ (fs:List Nat) (q:Array Bool),(fs.foldl (fun l i=>l.setIfInBounds i true) q).size=q.size:=by
   intro fs;induction fs with
   |nil=>intro q;rfl
   |cons i fs V=>intro q;simp[V]
  rw[this];simp
 refine wp_region_held (S:=S) hm ?_
 have:=ZdN (P:=P) (ops:=l.toArray) (S:=S) (Q:=Q) b hQ hS ((R++F).length+ZdG sg) (fun a'=>ZuC P l.toArray l S T Q R F sg a' w.drew) fs (ZcC l fs) (KQ l.length false) G a (Zch g) m h
  (fun a0 ⟨z, n, W, A, B, C, o, e, D⟩ => by
   have f: ∀ j∈R++F,(Zc7 l.length fs).getD j false=false:=fun j X=>(by simpa using Kn.1 x j X);have p:G=Zc7 l.length fs:=O
   have r:=Zik (P:=P) (ops:=l.toArray) (S:=S) (T:=T) (Q:=Q) (R:=R) (F:=F) (target:=Zc7 l.length (fs++(R++F))) (a0:=a0) (n2:=ZdG sg) b hQ n W A B C z o e
    (fun Y H Z s hI hD=>ZcG l rfl b hQ sg _ _ H s k N (D Y H Z s hI hD).out) (R++F).length (Zc7 l.length fs) (fun _=>undef) w.drew (Keep.refl _ _) hS (by simpa using y) M (fun i E t=>by rw[f i E] at t;cases t) (fun i E t=>by rw[f i E] at t;cases t)
   rw[ZkJ f] at r;rw[p];exact r)
 rw[J] at this;exact Ji
def Zdm:List (Option Tmp×Value)->Act->Act
 |[],a=>a
 |(d,v)::r,a=>Zdm r (a.put d v)
section
variable {P:Program} {o:Oper} {a:Act} {w:World} {K:Act->World->Prop} {Q:Exit->Act->World->Prop}
theorem Zkm {f:FuncId} {args:Array Operand} {ts:Array TypeId} {fn:Func} {c:Code} (ho:o.op= .call {callee:= .value (.func f),args:=args,argTypes:=ts}) (hf:P.funcs[f]? =some fn) (hname:(fn.name== "runtime.NumGoroutine")=false) (hb:fn.body=some c)
  (h:Calls P f (args.map a.eval) w fun e w'=> ∃ v,e= .returned v/\K (a.put o.dst v) w'):o.wp P a w K Q:=by
 have b:fn.name≠ "runtime.NumGoroutine" :=by simpa using hname
 unfold Oper.wp execOp;simp only[ho,resolve,Act.eval,Deferred.ofValue,invoke,KA,La,KM];have d:(callFunc f (args.map a.eval)).run P w= .ok (.enter f (args.map a.eval)) w:=by simp[callFunc,hf,b,hb,mark]
 simp only[Array.empty_append,Array.append_empty];rw[d];exact Calls.mono h fun e w' ⟨v,g,i⟩=>by subst g;exact i
theorem Zmq {v:Value} {w':World} (hr:(execOp a.eval o).run P w= .ok (.value v) w') (h:K (a.put o.dst v) w'):o.wp P a w K Q:=by
 unfold Oper.wp;rw[hr];exact h
theorem Zdx {f:FuncId} {x:Operand} {v:Value} {ts:Array TypeId} {fn:Func} {c:Code} (ho:o.op= .call {callee:= .value (.func f),args:= #[x],argTypes:=ts}) (hf:P.funcs[f]? =some fn) (hname:(fn.name== "runtime.NumGoroutine")=false) (hb:fn.body=some c)
  (hx:a.eval x=v) (h:Calls P f #[v] w fun e w'=> ∃ v,e= .returned v/\K (a.put o.dst v) w'):o.wp P a w K Q:=by
 subst hx;exact Zkm ho hf hname hb Ai
theorem Zbr {f:FuncId} {x y:Operand} {v u:Value} {ts:Array TypeId} {fn:Func} {c:Code} (ho:o.op= .call {callee:= .value (.func f),args:= #[x,y],argTypes:=ts}) (hf:P.funcs[f]? =some fn) (hname:(fn.name== "runtime.NumGoroutine")=false) (hb:fn.body=some c)
  (hx:a.eval x=v) (hy:a.eval y=u) (h:Calls P f #[v,u] w fun e w'=> ∃ v,e= .returned v/\K (a.put o.dst v) w'):o.wp P a w K Q:=by
 subst hx;subst hy;exact Zkm ho hf hname hb Ai
theorem Zbu {t:TypeId} {z:Value} (ho:o.op= .alloc t) (hz:(zeroValue t).run P w= .ok z w) (h:K (a.put o.dst (.pointer (some ⟨w.heap.size,0,none⟩))) (w.alloc (.cells z.cells t))):o.wp P a w K Q:=by
 refine Zmq (v:= .pointer (some ⟨w.heap.size,0,none⟩)) (w':=w.alloc (.cells z.cells t)) ?_ h;unfold execOp;simp only[ho,Instr.alloc,KA,hz,KM];rfl
theorem ZP {i:Nat} {x:Operand} {vs:Array Value} {v:Value} (ho:o.op= .extract x i) (hx:a.eval x= .tuple vs) (hv:vs[i]? =some v) (w':World):(execOp a.eval o).run P w'= .ok (.value v) w':=by
 unfold execOp;simp only[ho,hx,Instr.extract,hv,KA,La,KM]
end
theorem ZbU {P:Program} {ops:Array Oper} {l:List Oper} {S:World->Prop} {Q:Exit->Act->World->Prop} {sg:List (List Nat×Option Nat)} {vs:Nat->Value} {w:World}:
  ∀ {L:List Nat} {ds:List (Option Tmp)} {a0:Act},L.map (Zak ops)=ds->Shut (Zdp P ops l S Q sg (Zdm (ds.zip (L.map vs)) a0) w)->Shut (Zdp P ops l S Q sg (Zju ops vs L a0) w)
 |[],ds,a0,hd,h=>by subst hd;exact h
 |i::L,ds,a0,hd,h=>by subst hd;exact ZbU (L:=L) rfl h
theorem Zo1 (w:World) (t ty e:TypeId) (i:TypeInfo) (z:Value) (sz bytes:Nat) (ht:P.underlying t=some (.slice e)) (hi:P.info? e=some i) (hz:i.zero=some z)
  (hsize:i.size=sz) (hby:i.bytes=bytes) (hzs:z.cells.size=sz)
  {S:Nat->Prop} {a:Option Addr} (hdst:Row w T sz a n cap cs) (hsrc:Row w S sz b m c news)
  (hroom: ¬ n+m<=cap) (hbytes:(n+m)*bytes<=140737488355328) (h63:n+m<=maxLen):
  ∃ cap' w',(Builtin.append_ #[t,t] ty #[.slice a n cap, .slice b m c]).run P w= .ok (.slice (some ⟨w.heap.size,0,none⟩) (n+m) cap') w'/\Own w' e sz (some ⟨w.heap.size,0,none⟩) (n+m) cap' (cs++news)/\Grow w w':=by
 subst hsize;subst hby;have hlen:(cs++news).length=(n+m)*i.size:=by rw[List.length_append,hdst.len,hsrc.len,Ki]
 have cells: ∀ {Z:Nat->Prop} {q:Option Addr} {k c:Nat} {d:List Value},Row w Z i.size q k c d->(Builtin.firstCells i.size k (.slice q k c)).run P w.drew= .ok d.toArray w.drew:=by
  intro Z q k c d g;by_cases f:d=[]
  ·subst f;have r:k*i.size=0:=(by have:=g.len;simpa using this.symm);cases q with
   |none=>simp[Builtin.firstCells]
   |some q=>exact run_firstCells_some w.drew i.size k q k c [] (by simpa using r.symm) Θ
  ·obtain ⟨q,off,rfl,_,hc⟩:=g.addr f;refine run_firstCells_some w.drew i.size k _ k c d g.len fun j u hj=> ?_;exact Ip
 have hold:=cells hdst;have hf':=cells hsrc;have p:=growslice_fits (need:=n+m) (old:=cap) (bytes:=i.bytes) I hbytes;have h48: ¬ (281474976710656<Builtin.nextslicecap (n+m) cap*i.bytes):=I
 have l:=grownCap_ge w (n+m) cap e;have o:grownCap w (n+m) cap e<=maxLen:=grownCap_le_maxLen w (n+m) cap e h63
 refine ⟨grownCap w (n+m) cap e,w.drew.alloc (.cells (cs.toArray++news.toArray++Builtin.zeroCells z.cells (grownCap w (n+m) cap e-(n+m))) e), ?_,
  ⟨hlen,l,o,(fun h=>Ω),fun q s=> ?_⟩,((Grow.refl w).drew).alloc _ _⟩
 ·have hs2: ¬ (9223372036854775807<((n:Int)+(m:Int))):=Eu
  exact Ig
 ·obtain rfl:=JJ s;refine ⟨rfl,_,heap_alloc_new w.drew _, ?_, ?_⟩
  ·simp only[Array.size_append,List.size_toArray,size_zeroCells,hzs,hdst.len,hsrc.len, ←Ki];exact Nat.mul_le_mul_right _ I
  ·exact IZ
section
variable {P:Program} {o:Oper} {a:Act} {w:World} {K:Act->World->Prop} {Q:Exit->Act->World->Prop}
theorem Zvi {s x:Operand} {t:TypeId} (ho:o.op= .call {callee:= .builtin .append,args:= #[s,x],argTypes:= #[t,t]}) {e:TypeId} {z:Value} {sz bytes:Nat} (hT:SlT P t e z sz bytes)
  {S T:Nat->Prop} {p:Option Addr} {n cap:Nat} {cs:List Value} (hs:a.eval s= .slice p n cap) (hdst:Row w T sz p n cap cs) {b:Option Addr} {m c:Nat} {news:List Value} (hx:a.eval x= .slice b m c) (hsrc:Row w S sz b m c news)
  (hroom: ¬ n+m<=cap) (hbytes:(n+m)*bytes<=140737488355328) (h63:n+m<=maxLen)
  (h: ∀ cap' w',Own w' e sz (some ⟨w.heap.size,0,none⟩) (n+m) cap' (cs++news)->Grow w w'->K (a.put o.dst (.slice (some ⟨w.heap.size,0,none⟩) (n+m) cap')) w'):o.wp P a w K Q:=by
 obtain ⟨k,⟨i,l,q,f,g⟩,j⟩:=hT;obtain ⟨cap',w',r,d,v⟩:=Zo1 (P:=P) w t o.type e i z sz bytes k l q f g j hdst hsrc hroom hbytes h63;unfold Oper.wp execOp;simp only[ho,resolve,invoke,builtin,KA,La,KM,L5,JV,Kj,hs,hx,r];exact h _ _ d v
theorem Zh4 {t:TypeId} (ho:o.op= .buildSlice t 0 #[]) {e:TypeId} {z:Value} {sz bytes:Nat} (hT:SlT P t e z sz bytes)
  (h:K (a.put o.dst (.slice (some ⟨w.heap.size,0,none⟩) 0 0)) (w.alloc (.cells #[] e))):o.wp P a w K Q:=by
 obtain ⟨b,⟨i,c,k,d,f⟩,g⟩:=hT;have j:(Instr.buildSlice t 0 #[]).run P w= .ok (.slice (some ⟨w.heap.size,0,none⟩) 0 0) (w.alloc (.cells #[] e)):=by simp[Instr.buildSlice,run_underlying b,sizeOf,typeInfo,c,newRow,Instr.fill,show OL 0= #[] from by simp[OL]]
 unfold Oper.wp execOp;simp only[ho,L5,Kj,KA,j,KM];exact h
end
theorem ZkM (ho:o.op= .call {callee:= .builtin .append,args:= #[s,x],argTypes:= #[t,t]}) (hT:SlT P t e z sz bytes)
  {S:Nat->Prop} (hs:a.eval s= .slice p n cap) (hown:Own w e sz p n cap cs) (hx:a.eval x= .slice b m c) (hsrc:Row w S sz b m c news) (h1: ∀ u∈news,u.oneCell'=true)
  (hbytes:(n+m)*bytes<=140737488355328) (h63:n+m<=maxLen)
  (h: ∀ a' cap' w',Apped w w' e sz p a' (n+m) cap' (cs++news)->K (a.put o.dst (.slice a' (n+m) cap')) w'):o.wp P a w K Q:=by
 obtain ⟨k,⟨i,l,q,d,f⟩,g⟩:=hT;obtain ⟨a',cap',w',r,j⟩:=ZlF (P:=P) w t o.type e i z sz bytes k l q d f g hown hsrc h1 hbytes h63;unfold Oper.wp execOp;simp only[ho,resolve,invoke,builtin,KA,La,KM,L5,JV,Kj,hs,hx,r];exact h _ _ _ j
theorem Row.emptyAt {S:Nat->Prop} {g:Nat}:Row w S sz (some ⟨g,0,none⟩) 0 0 []:=⟨Θ,JM _,Γ,(fun h=>Ω),fun h=>(h rfl).elim⟩
theorem Own.ne_own {e1 e2:TypeId} {sz1 sz2:Nat} {a:Option Addr} {n1 n2 c1 c2:Nat} {ds:List Value} (h1:Own w e1 sz1 a n1 c1 cs) (h2:Own w e2 sz2 b n2 c2 ds) (hne:e1≠e2): ∀ g,blk a=some g->blk b≠some g:=fun g c d=>by
 cases a with
 |none=>simp at c
 |some p=>
  cases b with
  |none=>simp at d
  |some q=>simp at c d;obtain ⟨_,i,e,_⟩:=h1.block p rfl;obtain ⟨_,f,h,_⟩:=h2.block q rfl;rw[c] at e;rw[d] at h;have:=e.symm.trans h;exact I5
theorem Zpe (ho:o.op= .call {callee:= .builtin .append,args:= #[s,x],argTypes:= #[t,t]}) (hT:SlT P t e z sz bytes)
  (hs:a.eval s= .slice p 0 0) (hx:a.eval x= .slice b 0 c) (h:K (a.put o.dst (.slice p 0 0)) w):o.wp P a w K Q:=by
 obtain ⟨d,⟨i,f,m,g,j⟩,k⟩:=hT;have l:(Builtin.append_ #[t,t] o.type #[.slice p 0 0, .slice b 0 c]).run P w= .ok (.slice p 0 0) w:=by cases p<;>cases b<;>simp[Builtin.append_,run_underlying d,sizeOf,typeInfo,f,Builtin.lenOf,Builtin.firstCells,storeCells,loadCells,loadCellsFrom]
 unfold Oper.wp execOp;simp only[ho,resolve,invoke,builtin,KA,La,KM,L5,JV,Kj,hs,hx,l];exact h
def Zga (P:Program) (md:MV) (ops:Array Oper) (Q:Exit->Act->World->Prop) (S:World->Prop) (last:Nat):Nat->Array Bool->Act->World->Prop
 |0,listed,a,w=>Kz md ops listed=[]/\Q .normal a w
 |fuel+1,listed,a,w=>
  (Kz md ops listed=[]->Q .normal a w)/\
  ∀ i∈Kz md ops listed,wpOp P ops Q i (fun a' w'=>(i≠last->S w')/\Zga P md ops Q S last fuel (listed.setIfInBounds i true) a' w') a w
def Shutd (md:MV) (ops:Array Oper) (listed:Array Bool):Prop:= ∀ (j:Nat) (o:Oper),ops[j]? =some o->listed.getD j false=true-> ∀ e∈o.after,Lp md e=true->listed.getD e.on false=true
def sinkB (md:MV) (ops:Array Oper) (last:Nat):Bool:=
 (JN ops.size).all fun i => i == last || (JN ops.size).any fun k => decide (i < k) && (match ops[k]? with
  |some o=>o.after.any (fun e=>Lp md e&&e.on==i)
  |none=>false)
section
variable {P:Program} {md:MV} {ops:Array Oper} {S:World->Prop} {Q:Exit->Act->World->Prop} {last:Nat}
theorem Zku: ∀ (fuel:Nat) (listed:Array Bool) (a:Act) (w:World),Zga P md ops Q S last fuel listed a w->wpAny P md ops Q fuel listed a w
 |0,_,_,_,h=>h
 |fuel+1,_,_,_,h=>⟨h.1,fun i hi=>wpOp_mono (fun a' w' h'=>Zku fuel _ a' w' h'.2) (h.2 i hi)⟩
theorem Shutd.add {listed:Array Bool} {i:Nat} (h:Shutd md ops listed) (hi:i∈Kz md ops listed):Shutd md ops (listed.setIfInBounds i true):=fun j o d f e g k=>by
 by_cases a:i=j
 ·subst a;obtain ⟨_,l,b,c⟩:=mem_ready.1 hi;obtain rfl:o=l:=by rw[d] at b;exact JJ b
  exact getD_set_true (c e g k)
 ·rw[getD_set_ne false a] at f;exact getD_set_true (h j o d f e g k)
theorem Zm3 (hs:sinkB md ops last=true) {listed:Array Bool} (hc:Shutd md ops listed) (hl:last∈Kz md ops listed): ∀ (n i:Nat),ops.size-i<=n->i<ops.size->i≠last->listed.getD i false=true
 |0,i,hn,hi,_=>I
 |n+1,i,hn,hi,hne=>by
  have hs':=hs;unfold sinkB at hs';rw[Kn] at hs';have h1:=hs' i (JW.2 hi);rw[LW,beq_iff_eq] at h1;have h2:=h1.resolve_left hne;rw[List.any_eq_true] at h2;obtain ⟨k,hk,h3⟩:=h2;have hk:=JW.1 hk;rw[JQ,decide_eq_true_eq] at h3;obtain ⟨hik,h4⟩:=h3;cases ho:ops[k]? with
  |none=>rw[ho] at h4;cases h4
  |some o=>
   rw[ho] at h4;obtain ⟨e,he,hb⟩:=Array.any_eq_true'.1 h4;rw[JQ,beq_iff_eq] at hb;by_cases hkl:k=last
   ·subst hkl;obtain ⟨_,o',ho',hall⟩:=mem_ready.1 hl;obtain rfl:o=o':=(by rw[ho] at ho';exact JJ ho');have:=hall e he hb.1
    rwa [hb.2] at this
   ·have:=hc k o ho (Zm3 hs hc hl n k I hk hkl) e he hb.1
    rwa [hb.2] at this
theorem Zi4 (hsk:sinkB md ops last=true) {i:Nat} {oi:Oper} {v:Value} (hi:ops[i]? =some oi) (hil:i≠last) (hsel: ∀ (j:Nat) (o:Oper) cs b,ops[j]? =some o->o.op≠ .select cs b)
  (hQ: ∀ c a w,Q (.panic c) (a.put oi.dst v) w->Q (.panic c) a w):
  ∀ (fuel:Nat) (listed:Array Bool) (a:Act) (w:World),Shutd md ops listed->
   (∀ j oj,ops[j]? =some oj->j≠i->listed.getD j true=false->(∀ e∈oj.after,Lp md e=true->e.on≠i)->oi.apart ops oj=true)->
   i∈Kz md ops listed->YieldsIf P ops S oi v a->S w->
   Zga P md ops Q S last fuel (listed.setIfInBounds i true) (a.put oi.dst v) w->Zga P md ops Q S last (fuel+1) listed a w:=by
 intro fuel;induction fuel with
 |zero=>
  intro listed a w _ _ l A q H;refine ⟨fun h=>(by rw[h] at l;cases l),fun j p=> ?_⟩;by_cases d:j=i
  ·subst d;exact A.wpOp hi q ⟨fun _=>q,H⟩
  ·have:=ready_mono p d;rw[H.1] at this;cases this
 |succ fuel G=>
  intro listed a w r f l A q H;refine ⟨fun h=>(by rw[h] at l;cases l),fun j p=> ?_⟩;by_cases d:j=i
  ·subst d;exact A.wpOp hi q ⟨fun _=>q,H⟩
  ·have C:j≠last:=fun e=>by
    subst e;have h1:=Zm3 hsk r p _ i (JM _) (LG.1 hi).1 hil;have h0:=(mem_ready.1 l).1;exact IE
   have h1:=H.2 j (ready_mono p d);obtain ⟨m,oj,n,s⟩:=mem_ready.1 p;have t: ∀ e∈oj.after,Lp md e=true->e.on≠i:=fun e J L D=>by
    have h1:=s e J L;have h0:=(mem_ready.1 l).1;rw[D] at h1;exact IE
   have M:=wpOp_putIf n (f j oj n d m t) (fun cs b=>hsel i oi cs b hi) (fun cs b=>hsel j oj cs b n) hQ A h1
   have g: ∀ k x,ops[k]? =some x->k≠i->(listed.setIfInBounds j true).getD k true=false->
     (∀ e∈x.after,Lp md e=true->e.on≠i)->oi.apart ops x=true:=fun k x N E y F=>by
    refine f k x N E ?_ F;by_cases z:j=k
    ·subst z;exact m
    ·rw[getD_set_ne true z] at y;exact y
   refine wpOp_mono (fun O R B=>⟨B.2.1,G (listed.setIfInBounds j true) O R (r.add p) g (ready_mono l (Ne.symm d)) B.1 (B.2.1 C) ?_⟩) M;rw[Array.setIfInBounds_comm _ _ d];exact B.2.2
end
def Zew (P:Program) (ops:Array Oper) (l:List Oper) (S:World->Prop) (last:Nat) (Q:Exit->Act->World->Prop):List (List Nat×Option Nat)->Act->World->Prop
 |[],a,w=>Q .normal a w
 |(fs,none)::r,a,w=>wpQuiet P ops S (fun a'=>Zew P ops l S last Q r a' w) (ZcC l fs) a
 | (fs, some i) :: r, a, w => wpQuiet P ops S (fun a' => match l[i]? with
   |some o=>if KR o (yielded ops a'.tmps) then o.wp P a' w (fun a2 w2=>(i≠last->S w2)/\Zew P ops l S last Q r a2 w2) Q else S w/\Zew P ops l S last Q r (a'.put o.dst undef) w
   |none=>False) (ZcC l fs) a
def ZgM (last:Nat):List (List Nat×Option Nat)->Bool
 |[]=>true
 |(fs,none)::r=>fs.all (· !=last)&&ZgM last r
 |(fs,some i)::r=>fs.all (· !=last)&&((i !=last||r.isEmpty)&&ZgM last r)
section
variable {P:Program} {ops:Array Oper} {S:World->Prop} {Q:Exit->Act->World->Prop} {last:Nat}
theorem Ze4 (hsk:sinkB .any ops last=true) (hsel:KH ops=true) (hQ: ∀ c (a:Act) d v w,Q (.panic c) (a.put (some d) v) w->Q (.panic c) a w) {w:World} (hS:S w) (n2:Nat) (K:Act->Prop):
  ∀ (p:List Nat) (l:List Oper) (listed listed':Array Bool) (a:Act),p.map (ops[·]?)=l.map some->(p.all (· !=last))=true->Shutd .any ops listed->ZaX ops p listed=some listed'->wpQuiet P ops S K l a->(∀ a',Shutd .any ops listed'->K a'->Zga P .any ops Q S last n2 listed' a' w)->Zga P .any ops Q S last (p.length+n2) listed a w
 |[],[],listed,listed',a,_,_,hc,hF,h,hK=>by simp only[ZaX,L7] at hF;subst hF;simpa using hK a hc h
 |[],_::_,_,_,_,hl,_,_,_,_,_=>Da
 |_::_,[],_,_,_,hl,_,_,_,_,_=>Da
 |i::p,o::l,listed,listed',a,hl,hal,hc0,hF,h,hK=>by
  simp only[JV,List.cons.injEq] at hl;simp only[List.all_cons,JQ,bne_iff_ne] at hal;simp only[ZaX] at hF;split at hF
  ·rename_i hc;simp only[JQ,hl.1,KI,MC] at hc;obtain ⟨⟨hr,hf⟩,hp,hd⟩:=hc;obtain ⟨d,hd⟩:=Ml.1 hd;have hr':i∈Kz .any ops listed:=(by simpa using hr);have ih:=fun a' h'=>Ze4 hsk hsel hQ hS n2 K p l _ listed' a' hl.2 hal.2 (hc0.add hr') hF h' hK;rw[Kw,MU];unfold wpQuiet at h;by_cases hw:KR o (yielded ops a.tmps)=true
   ·rw[if_pos hw] at h;obtain ⟨v,hv,hK'⟩:=h;refine Zi4 (v:=v) hsk hl.1 hal.1 (OO hsel) (fun c a w hh=>Cl) _ listed a w hc0 (OP hl.1 hf) hr' (.inl ⟨hw,fun w' hw'=> ?_⟩) hS (ih _ hK');exact Gn
   ·rw[if_neg hw] at h;exact Zi4 (v:=undef) hsk hl.1 hal.1 (OO hsel) (fun c a w hh=>Dr) _ listed a w hc0 (OP hl.1 hf) hr' (.inr ⟨by simpa using hw,rfl⟩) hS (ih _ h)
  ·cases hF
theorem ZdJ (l:List Oper) (hops:ops=l.toArray) (hsk:sinkB .any ops last=true) (hsel:KH ops=true) (hQ: ∀ c (a:Act) d v w,Q (.panic c) (a.put (some d) v) w->Q (.panic c) a w):
  ∀ (sg:List (List Nat×Option Nat)) (listed:Array Bool) (a:Act) (w:World),(sg≠[]->S w)->Shutd .any ops listed->ZgM last sg=true->Zb3 l.length sg=true->Zcf ops sg listed=true->Zew P ops l S last Q sg a w->Zga P .any ops Q S last (ZdG sg) listed a w
 |[],listed,a,w,hS,_,_,hin,hB,h=>⟨by simpa [Zcf] using hB,h⟩
 |(fs,none)::r,listed,a,w,hS,hc,hL,hin,hB,h=>by
  simp only[Zcf] at hB;simp only[Zb3,JQ] at hin;simp only[ZgM,JQ] at hL;split at hB
  ·rename_i listed' hF;exact Ze4 hsk hsel hQ (hS Θ) _ _ fs (ZcC l fs) listed listed' a Du hL.1 hc hF h fun a' hc' h'=>ZdJ l hops hsk hsel hQ r listed' a' w (fun _=>hS Θ) hc' hL.2 hin.2 hB h'
  ·cases hB
 |(fs,some i)::r,listed,a,w,hS,hc,hL,hin,hB,h=>by
  simp only[Zcf] at hB;simp only[Zb3,JQ,decide_eq_true_eq] at hin;simp only[ZgM,JQ,LW,bne_iff_ne] at hL;split at hB
  ·rename_i listed' hF;simp only[JQ,beq_iff_eq] at hB;have hi:l[i]? =some l[i]:=JR hin.2.1;refine Ze4 hsk hsel hQ (hS Θ) _ _ fs (ZcC l fs) listed listed' a Du hL.1 hc hF h fun a' hc' h'=> ?_;simp only[hi] at h';refine ⟨(fun h0=>by rw[h0] at hB;exact nomatch hB.1),fun j hj=> ?_⟩;have hjr:j∈Kz .any ops listed':=hj;rw[hB.1] at hj;obtain rfl:=Kv.1 hj;unfold wpOp;have ho:ops[j]? =some l[j]:=(by rw[hops];simp);simp only[ho];have hend: ∀ w2,(j≠last->S w2)->r≠[]->S w2:=fun w2 h2 hr=>h2 (by
    rcases hL.2.1 with h3|h3
    ·exact h3
    ·exact (hr (List.isEmpty_iff.1 h3)).elim)
   split
   ·rename_i hw;rw[if_pos hw] at h';exact .inl (Oper.wp_mono (fun a2 w2 h2=>⟨h2.1,ZdJ l hops hsk hsel hQ r _ a2 w2 (hend w2 h2.1) (hc'.add hjr) hL.2.2 hin.2.2 hB.2 h2.2⟩) h')
   ·rename_i hw;rw[if_neg hw] at h';exact ⟨fun _=>h'.1,ZdJ l hops hsk hsel hQ r _ _ w (fun _=>h'.1) (hc'.add hjr) hL.2.2 hin.2.2 hB.2 h'.2⟩
  ·cases hB
end
theorem Zgx (sg:List (List Nat×Option Nat)) (hm:P.follows .mixedOrders=true)
  (hB:(sinkB .any l.toArray last&&(ZgM last sg&&(KH l.toArray&&(ZdG sg==l.length&&(Zb3 l.length sg&&Zcf l.toArray sg (KQ l.length false))))))=true)
  (hQ: ∀ c (a:Act) d v w,Q (.panic c) (a.put (some d) v) w->Q (.panic c) a w) (hS:S w.drew) (h:Zew P l.toArray l S last Q sg a w.drew):(Code.region id l.toArray true).wp P Q a w:=by
 simp only[JQ,beq_iff_eq] at hB;obtain ⟨e,k,b,m,f,n⟩:=hB;refine wp_region_any hm (Zku (S:=S) (last:=last) _ _ _ _ ?_);have:=ZdJ (P:=P) (Q:=Q) (S:=S) l rfl e b hQ sg (KQ l.length false) a _ (fun _=>hS) (fun j o _ i=>by
  rw[show (KQ l.length false).getD j false=false by
   rcases Nat.lt_or_ge j l.length with g|g
   ·simp[g]
   ·simp[g]] at i
  cases i) k f n h
 rw[m] at this;exact Ji
theorem ZY {i:Nat} (hw:KR o (yielded ops a.tmps)=true)
  (h: ∀ K:Act->World->Prop,(∀ a w,(i≠last->S w)->N a w->K a w)->o.wp P a w K Q):if KR o (yielded ops a.tmps)=true then o.wp P a w (fun a2 w2=>(i≠last->S w2)/\N a2 w2) Q else S w/\N (a.put o.dst undef) w:=by
 rw[if_pos hw];exact h _ fun a w b c=>⟨b,c⟩
theorem Z8 (h:Q .normal a w):Zew P ops l S last Q [] a w:=h
theorem ZeC (last:Nat) (sg:List (List Nat×Option Nat)) (h:Zew P l.toArray l (Grow w) last Q sg a w.drew) (hm:P.follows .mixedOrders=true:=by exact ZaB)
  (hB:(sinkB .any l.toArray last&&(ZgM last sg&&(KH l.toArray&&(ZdG sg==l.length&&(Zb3 l.length sg&&Zcf l.toArray sg (KQ l.length false))))))=true:=by kernel_rfl) (hQ: ∀ c (a:Act) d v w,Q (.panic c) (a.put (some d) v) w->Q (.panic c) a w:=by exact fun _ _ _ _ _ h=>h):
  (Code.region id l.toArray true).wp P Q a w:=Zgx sg hm hB hQ (Grow.refl _).drew h
theorem Zk2 (last:Nat) (T:Nat->Prop) (sg:List (List Nat×Option Nat)) (h:Zew P l.toArray l (Keep T w) last Q sg a w.drew) (hm:P.follows .mixedOrders=true:=by exact ZaB)
  (hB:(sinkB .any l.toArray last&&(ZgM last sg&&(KH l.toArray&&(ZdG sg==l.length&&(Zb3 l.length sg&&Zcf l.toArray sg (KQ l.length false))))))=true:=by kernel_rfl) (hQ: ∀ c (a:Act) d v w,Q (.panic c) (a.put (some d) v) w->Q (.panic c) a w:=by exact fun _ _ _ _ _ h=>h):
  (Code.region id l.toArray true).wp P Q a w:=Zgx sg hm hB hQ (Keep.refl _ _).drew h
theorem Zct {P Q:Prop} (k:Q) (h:Wr Q->P:=by intro k;refine Zh ?_;refine ZY rfl ?_;intro K hK;go_wp2_with fail;revert hK;revert K;exact k.o):P:=h ⟨k⟩

end Go.Proofs.YtgjefeiddfjjnaaGreatDoor
