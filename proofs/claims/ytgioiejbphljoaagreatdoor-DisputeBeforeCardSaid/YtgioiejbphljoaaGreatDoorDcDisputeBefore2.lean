/-
  What DisputeBefore stands on, part 2: memory, code, plain reckoning.
-/
import Derived.Laws.MakeOwn
import Derived.Maps.Own
import Derived.Maps.RangeRun
import Derived.DeepKeys4
import Derived.WideKeyEntry
import Derived.Shelf.SlGeneric
import Derived.Shelf.SlLaysF0
import Derived.Ground.SlsfProg
import Derived.Test.YtgioiejbphljoaaGreatDoorProg
import Derived.ProofKit
import Derived.Deep.Slices
import Derived.Shelf.Lays8
import Derived.Ground.Names8Prog
import Derived.Test.YtgioiejbphljoaaGreatDoorDcDisputeBefore1
open List (mem_append mem_cons mem_map replicate toArray)
open Nat (beq blt)
open Go.Proofs.Tryz
set_option linter.unusedVariables false
set_option linter.unusedSectionVars false
noncomputable section
namespace Go.Sx
open Go Go.RowKit
variable[Trk]
section
variable{w0 w w':World}{Mu M:List Nat}{σ:List Res}
section
variable{α:Type}{E:Enc α}{e:TypeId}{v:Value}{xs:List α}{mu:List Nat}
theorem AAx(hM:MLt M w)(hd:∀b∈ob v,b∉M)(h:Own E e 0 M w v xs):@Hp _ fx0 w (ob v) M [ownR (ob v) E e v xs] w:=by
 refine⟨Kp.refl _ _,fun b hb=>?_,Adv.refl _ _,fun b hb=>.inl (hM b hb),fun r hr b hb=>?_,fun r hr=>?_,fun i j r r' hi hj hne=>?_,fun r hr=>?_,fun _ _ h=>by cases h⟩
 . rcases mem_append.1 hb with h1|h1
   . exact(h.ge b h1).2
   . exact hM b h1
 . have:r=ownR (ob v) E e v xs:=by simpa using hr
   subst this;exact hd b hb
 . have:r=ownR (ob v) E e v xs:=by simpa using hr
   subst this;exact⟨fun b hb=>hb,fun b hb=>.inl hb⟩
 . cases i with
   |zero=>cases j with
    |zero=>exact absurd rfl hne
    |succ j=>simp at hj
   |succ i=>simp at hi
 . have:r=ownR (ob v) E e v xs:=by simpa using hr
   subst this;exact h.mon fun b hb=>by
    rcases mem_append.1 hb with h1|h1
    . exact .inl h1
    . exact .inr h1
theorem Hp.ownBack[Fx]{u:Value}(h:Hp w0 (ob u) M σ w)(i:Nat)(hi:σ[i]?=some (ownR mu E e v xs)):
  Own E e 0 M w v xs/\(∀b∈ob v,b∈ob u\/w0.heap.size<=b)/\Kp (ob u) w0 w:=
 ⟨(h.ownAt i hi).mon fun _ hb=>.inr (mem_mm.2 (.inr hb)),fun b hb=>((h.own _ (AaP hi)).2 b hb).elim (fun h1=>.inl ((h.own _ (AaP hi)).1 b h1)) .inr,h.kp⟩
theorem ADB(i:Nat)(hi:σ[i]?=some (ownR mu E e v xs)):Adv (mm σ M) (ob v++mm (σ.eraseIdx i) M) w w:=
 Adv.drop fun b hb=>(mem_append.1 hb).elim (fun h=>mem_mm.2 (.inl ⟨_,AaP hi,h⟩)) (AAQ (Aal σ i))
theorem Hp.lendH[Fx](_:Hp w0 Mu M σ w)(i:Nat)(hi:σ[i]?=some (ownR mu E e v xs)):Adv (mm σ M) (ob v++mm (σ.eraseIdx i) M) w w:=ADB i hi
theorem Hp.lendOwn[Fx](h:Hp w0 Mu M σ w)(i:Nat)(hi:σ[i]?=some (ownR mu E e v xs)):Own E e 0 (mm (σ.eraseIdx i) M) w v xs:=(h.ownAt i hi).mon fun b hb=>.inr (AAQ (Aal σ i) hb)
theorem Hp.lendM[Fx](h:Hp w0 Mu M σ w)(i:Nat)(hi:σ[i]?=some (ownR mu E e v xs)):MLt (ob v++mm (σ.eraseIdx i) M) w:=fun b hb=>
 (mem_append.1 hb).elim (fun h1=>h.mlt b (h.ownSub i hi b h1)) (fun h1=>h.mlt b (AAQ (Aal σ i) h1))
theorem Adv.lent{L M:List Nat}{w w':World}(e:Kp L w w'):Adv (L++M) (L++M) w w':=⟨e.mono fun b hb=>.inl (AaR _ hb),fun _ hb=>.inl hb⟩
theorem Hp.took[Fx]{v v':Value}{xs ys:List α}(h:Hp w0 Mu M σ w)(i:Nat)(hi:σ[i]?=some (ownR mu E e v xs))(hp:Own E e 0 (mm (σ.eraseIdx i) M) w' v' ys/\(∀b∈ob v',b∈ob v\/w.heap.size<=b)/\Kp (ob v) w w'):
 Hp w0 Mu M (σ.set i (ownR mu E e v' ys)) w':=h.upd2 i hi hp.2.2 hp.2.1 rfl fun M' hM'=>hp.1.mon hM'
end
end
section
variable{α:Type}{E:Enc α}{M:List Nat}{w:World}
theorem Chunks.take:∀{cs:List Value} {ys:List α},Chunks E M w cs ys->∀k,k<=ys.length->Chunks E M w (cs.take (k*E.n)) (ys.take k)
 |cs,[],hc,k,_=>by have hc:cs=[]:=hc;subst hc;simp;rfl
 |cs,y::ys,⟨c,rest,e,hR,hr⟩,0,_=>by simp;rfl
 |cs,y::ys,⟨c,rest,e,hR,hr⟩,k+1,hk=>by
  have hl:=E.len hR;refine⟨c,rest.take (k*E.n),?_,hR,Chunks.take hr k (by simpa using hk)⟩;rw[e,AbB,Ab3,Nat.add_comm,<-hl];simp[List.take_append];exact Aa7 (Nat.le_add_right _ _)
theorem Own.take{e:TypeId}{Bb:Nat}{a:Option Addr}{n c:Nat}{xs:List α}(h:Own E e Bb M w (.slice a n c) xs)(k:Nat)(hk:k<=xs.length):Own E e Bb M w (.slice a k c) (xs.take k):=by
 rcases h with⟨a',he,rfl⟩|⟨g,cap,cur,he,h1,h2,h3,h4,h5,h6⟩
 . cases he
   have:k=0:=by simpa using hk
   subst this;exact .inl ⟨_,rfl,rfl⟩
 . cases he
   refine .inr ⟨g,cap,cur,by rw[Aa3,Abe hk],h1,h2,by rw[Aa3];omega,h4,h5,?_⟩;have:=h6.take k hk;rw[List.take_take]at this;rw[Aa3,Abe hk];rwa [Abe (AbF _ hk)]at this
theorem AHK{P:Program}{N:Nat}{ops:Array Oper}{rest:List Oper}{ds:List Deferred}{L:A8}{A B:A5}{X:Nat->A5}{Z:List PanicEntry->A5}{o:Oper}(v:Value)(w':World)(hg:o.guard=none)(hd:o.dst=none)(hr:∀a,Knows N ds L a->(execOp a.eval o).run P w=.ok (.value v) w')(h:Reg P N ops .seq rest ds L w' A B X Z):Reg P N ops .seq (o::rest) ds L w A B X Z:=by
 intro a ha;refine wpList_plain hg fun K hK=>?_;simp only[Oper.wp,hr a ha,Oper.upon_value,hd];exact hK _ _ (h _ ha)
def View{α:Type}(E:Enc α)(v v':Value)(k:Nat):Prop:=∃a n c,v=.slice a n c/\v'=.slice (if c=k then a else a.map (·.add (k*E.n))) (n-k) (c-k)
end
section
variable{P:Program}{N:Nat}{ops:Array Oper}{q:Md}{rest:List Oper}{ds:List Deferred}{L:A8}{w w0:World}{A B:A5}{X:Nat->A5}{Z:List PanicEntry->A5}{d:Nat}{ty:TypeId}{pos:String}{af:Array Edge}{Mu M:List Nat}{σ:List Res}
section
variable{α:Type}{E:Enc α}{mu:List Nat}{e':TypeId}{t:TypeId}{e:TypeId}{x:Operand}{y:Operand}{v:Value}{k:IntKind}{j:Int}
theorem AYi[Fx](i:Nat){xs l:List α}(hI:Hp w0 Mu M σ w)(hi:σ[i]?=some (ownR mu E e' v xs))(hx:ev L x=some v)(hy:ev L y=some (.int k j))(hl:AA4 xs j=some l)(ht:P.underlying t=some (.slice e))(hs:∀w,(sizeOf e).run P w=.ok E.n w)(hN:blt d N=true)(h:∀v',View E v v' j.toNat->Reg P N ops q rest ds ((d,v')::L) w A B X Z):
  Reg P N ops q (⟨some d,.slice t x (some y) none none,ty,pos,af,none⟩::rest) ds L w A B X Z:=by
 obtain⟨⟨h0,h1⟩,_⟩:=AFn hl
 obtain⟨a,c,rfl,h2,h3⟩:=(hI.ownAt i hi).shape
 have ht':P.underlying t=some (.slice (P.elem t)):=by simp[Program.elem,ht]
 have he:P.elem t=e:=by simp[Program.elem,ht]
 refine Reg.val _ rfl rfl hN (fun a' ha w' _=>?_) (h _ ⟨a,_,c,rfl,rfl⟩)
 have hr:=run_slice_l (P:=P) w' t a xs.length c ht' k j h0 (by omega)
 simp[execOp,ha.eval hx,ha.eval hy,run_sliceAt_slice w' t _ _ _ _ ht',hr,he,hs,sliced]
theorem AI5(zc:Array Value)(m:Nat):(Builtin.zeroCells zc m).toList=(replicate m zc.toList).flatten:=by
 have key:(List.range (m*zc.size)).map (fun i=>zc[i % zc.size]!)=(replicate m zc.toList).flatten:=by
  induction m with
  |zero=>simp
  |succ m ih=>
   rw[AbB,Ab3,List.range_add,Aai,ih,Aau,List.replicate_succ',List.flatten_append]
   congr 1
   simp only[List.flatten_cons,List.flatten_nil,List.append_nil]
   apply List.ext_getElem
   . simp
   . intro i h1 h2
     simp at h1
     simp[Nat.add_mod,Nat.mod_eq_of_lt h1,h1]
 rw[<-key];simp[Builtin.zeroCells]
theorem ASx[Fx](i:Nat){v v' z:Value}{zc:List Value}{z0:α}{xs l:List α}(hI:Hp w0 Mu M σ w)(hi:σ[i]?=some (ownR mu E e v xs))(hv:View E v v' j.toNat)(hl:AA4 xs j=some l)(hx:ev L x=some v')(ht:P.underlying t=some (.slice e))(hz:∀w,(zeroValue e).run P w=.ok z w)(hzc:z.cells=zc.toArray)(hz0:∀M w,E.R M w zc z0)(h:∀w',Hp w0 Mu M (σ.set i (ownR mu E e v (xs.take j.toNat++replicate l.length z0))) w'->Adv (mm σ M) (mm (σ.set i (ownR mu E e v (xs.take j.toNat++replicate l.length z0))) M) w w'->Reg P N ops .seq rest ds L w' A B X Z):
  Reg P N ops .seq (⟨none,.call ⟨.builtin .clear,#[x],#[t]⟩,ty,pos,af,none⟩::rest) ds L w A B X Z:=by
 obtain⟨⟨h0,h1⟩,rfl⟩:=AFn hl
 have ho:=hI.ownAt i hi
 have hlen:(xs.take j.toNat++replicate (xs.drop j.toNat).length z0).length=xs.length:=by simp;omega
 rcases Aag j.toNat xs.length with hlt|hge
 . obtain⟨g,cap,cur,rfl,hob,hB,hheap,hle,hmax,hsize,hch⟩:=ho.at_ (by omega)
   obtain⟨a',n',c',he,rfl⟩:=hv
   cases he
   have hck:¬cap+1=j.toNat:=by omega
   have hcl:cur.toList.length=(cap+1)*E.n:=by rw[<-hsize];exact AbX
   have hzl:zc.length=E.n:=E.len (hz0 [] w)
   have hvs:((replicate (xs.length-j.toNat) zc).flatten).length=(xs.length-j.toNat)*E.n:=by
    simp[List.length_flatten,hzl]
   have hroom:j.toNat*E.n+(xs.length-j.toNat)*E.n=xs.length*E.n:=by rw[<-AbB];congr 1;omega
   have hroom2:xs.length*E.n<=(cap+1)*E.n:=AbF _ hle
   have hrow:Row e w g cur.toList:=hheap
   obtain⟨w',hrun,hw',hk⟩:=AB7 (P:=P) g e ((replicate (xs.length-j.toNat) zc).flatten) 0 cur.toList w (j.toNat*E.n) hrow (by rw[hcl,hvs];omega) (fun u hu=>by
    obtain⟨c,hc,hu⟩:=List.mem_flatten.1 hu;rw[List.eq_of_mem_replicate hc]at hu;exact E.one (hz0 [] w) u hu)
   have hk':Kp (ob (Value.slice (some ⟨g,0,none⟩) xs.length (cap+1))) w w':=by rw[hob];exact hk
   have hsub:=hI.ownSub i hi
   rw[hob]at hsub
   have hadv:Adv (g::mm σ M) (g::mm σ M) w w':=⟨hk.mono fun x hx=>.inl (by simp at hx;subst hx;exact AaT ..),fun _ h=>.inl h⟩
   have hown:Own E e 0 (mm σ M) w' (Value.slice (some ⟨g,0,none⟩) xs.length (cap+1)) (xs.take j.toNat++replicate (xs.drop j.toNat).length z0):=by
    refine .inr ⟨g,cap,(B6 cur.toList (j.toNat*E.n) ((replicate (xs.length-j.toNat) zc).flatten)).toArray,by rw[hlen],Aas _,by simpa[Row] using hw',by rw[hlen];exact hle,hmax,by simp[ADl,hcl],?_⟩;have he:((B6 cur.toList (j.toNat*E.n) ((replicate (xs.length-j.toNat) zc).flatten)).toArray.toList.take ((xs.take j.toNat++replicate (xs.drop j.toNat).length z0).length*E.n))=(cur.toList.take (j.toNat*E.n))++(replicate (xs.length-j.toNat) zc).flatten:=by
     rw[hlen,show(B6 cur.toList (j.toNat*E.n) ((replicate (xs.length-j.toNat) zc).flatten)).toArray.toList=B6 cur.toList (j.toNat*E.n) ((replicate (xs.length-j.toNat) zc).flatten) from rfl,V2 _ _ _ (by rw[hcl,hvs];omega),<-hroom,<-hvs];have hl2:(cur.toList.take (j.toNat*E.n)++(replicate (xs.length-j.toNat) zc).flatten).length=j.toNat*E.n+((replicate (xs.length-j.toNat) zc).flatten).length:=by
      rw[Aaf,Aa3,hcl,Abe (by omega)]
     rw[<-hl2];exact List.take_left
    rw[he];have hrep:∀m,Chunks E (g::mm σ M) w' ((replicate m zc).flatten) (replicate m z0):=by
     intro m;induction m with
     |zero=>exact rfl
     |succ m ih=>exact⟨zc,_,by rw[List.replicate_succ];rfl,hz0 _ _,by simpa using ih⟩
    rw[Ab0];refine Chunks.append (hrep _) (Chunks.adv hadv ?_);have h5:=hch.take j.toNat (by omega);rwa [List.take_take,Abe (AbF _ (by omega))]at h5
   refine AHK (.tuple #[]) w' rfl rfl (fun a ha=>?_) (h w' (hI.upd i hi hk' (fun b hb=>.inl hb) rfl fun M' hM'=>hown.mon hM') (hI.updA (r':=ownR mu E e _ _) i hi hk' fun b hb=>.inl hb))
   obtain⟨m,hm⟩:∃m,xs.length-j.toNat=m+1:=⟨xs.length-j.toNat-1,by omega⟩
   rw[hm]at hrun
   have hzl2:=AI5 zc.toArray (m+1)
   have hn:∀a',(if cap+1=j.toNat then a' else Option.map (fun x:Addr=>x.add (j.toNat*E.n)) (some ⟨g,0,none⟩))=some ⟨g,j.toNat*E.n,none⟩:=fun a'=>by rw[if_neg hck];simp[add_none]
   rw[hn,hm]at hx
   have hrun2:(storeCells ⟨g,j.toNat*E.n,none⟩ (Builtin.zeroCells z.cells (m+1)).toList).run P w=.ok () w':=by
    rw[hzc,hzl2];exact hrun
   simp[execOp,resolve,invoke,builtin,ha.eval hx,Builtin.clear_,run_underlying ht,hz,hrun2]
 . have hn0:(xs.drop j.toNat).length=0:=by rw[Ab0];omega
   have hxs:xs.take j.toNat++replicate (xs.drop j.toNat).length z0=xs:=by rw[hn0,Aa7 hge];simp
   rw[hxs]at h
   refine AHK (.tuple #[]) w rfl rfl (fun a ha=>?_) (h w (hI.upd i hi (Kp.refl _ _) (fun b hb=>.inl hb) rfl fun M' hM'=>ho.mon hM') (hI.updA (r':=ownR mu E e v xs) i hi (Kp.refl _ _) fun b hb=>.inl hb))
   obtain⟨a',n',c',rfl,rfl⟩:=hv
   obtain⟨a2,c2,he2,_⟩:=ho.shape
   cases he2
   have h00:xs.length-j.toNat=0:=by omega
   simp only[h00]at hx
   generalize (if c'=j.toNat then a' else Option.map (fun x:Addr=>x.add (j.toNat*E.n)) a')=a3 at hx
   cases a3<;>simp[execOp,resolve,invoke,builtin,ha.eval hx,Builtin.clear_,run_underlying ht]
theorem AYj[Fx](i:Nat){xs l:List α}(hI:Hp w0 Mu M σ w)(hi:σ[i]?=some (ownR mu E e' v xs))(hx:ev L x=some v)(hy:ev L y=some (.int k j))(hl:AAG xs j=some l)(ht:P.underlying t=some (.slice e))(hs:∀w,(sizeOf e).run P w=.ok E.n w)(hN:blt d N=true)(h:∀v',Hp w0 Mu M (σ.set i (ownR mu E e' v' l)) w->Adv (mm σ M) (mm (σ.set i (ownR mu E e' v' l)) M) w w->Reg P N ops .seq rest ds ((d,v')::L) w A B X Z):
  Reg P N ops .seq (⟨some d,.slice t x none (some y) none,ty,pos,af,none⟩::rest) ds L w A B X Z:=by
 obtain⟨⟨h0,h1⟩,rfl⟩:=AJl hl
 have ho:=hI.ownAt i hi
 obtain⟨a,c,rfl,h2,h3⟩:=ho.shape
 have ht':P.underlying t=some (.slice (P.elem t)):=by simp[Program.elem,ht]
 have he:P.elem t=e:=by simp[Program.elem,ht]
 have hval:sliced a 0 j.toNat c E.n=.slice a j.toNat c:=by
  simp only[sliced,Nat.zero_mul,Nat.sub_zero];congr 1;split
  . rfl
  . cases a<;>simp[Addr.add]
 have hown:=ho.take j.toNat (by omega)
 have hob:∀b∈ob (Value.slice a j.toNat c),b∈ob (Value.slice a xs.length c):=fun b hb=>by cases a<;>cases c<;>first|exact hb|simpa[ob] using hb
 refine Reg.val (.slice a j.toNat c) rfl rfl hN (fun a' ha w' _=>?_) (h _ (hI.upd i hi (Kp.refl _ _) (fun b hb=>.inl (hob b hb)) rfl fun M' hM'=>hown.mon hM') (hI.updA (r':=ownR mu E e' (.slice a j.toNat c) _) i hi (Kp.refl _ _) fun b hb=>.inl (hob b hb)))
 have hr:=run_slice_h (P:=P) w' t a xs.length c ht' k j h0 (by omega)
 simp[execOp,ha.eval hx,ha.eval hy,run_sliceAt_slice w' t _ _ _ _ ht',hr,he,hs,hval]
end
end
def mko{α:Type}(b:Nat)(z:α)(n:Int):Option (List α):=if 0<=n/\(b:Int)*n<=140737488355328/\n<=140737488355328 then some (replicate n.toNat z) else none
theorem ASy{α:Type}{b:Nat}{z:α}{n:Int}{l:List α}(h:mko b z n=some l):(0<=n/\(b:Int)*n<=140737488355328/\n<=140737488355328)/\l=replicate n.toNat z:=by
 unfold mko at h;split at h
 . cases h;exact⟨by assumption,rfl⟩
 . cases h
theorem Chunks.same{α:Type}{E:Enc α}{M:List Nat}{w:World}{v:Value}{z:α}(h:E.R M w [v] z):∀n,Chunks E M w (replicate n v) (replicate n z)
 |0=>rfl
 |n+1=>⟨[v],replicate n v,rfl,h,Chunks.same h n⟩
section
variable{P:Program}{N:Nat}{ops:Array Oper}{q:Md}{rest:List Oper}{ds:List Deferred}{L:A8}{w w0:World}{A B:A5}{X:Nat->A5}{Z:List PanicEntry->A5}{d:Nat}{ty:TypeId}{pos:String}{af:Array Edge}{Mu M:List Nat}{σ:List Res}
theorem AYk[Fx]{α:Type}{E:Enc α}{t e bytes:Nat}(T:SlT P t e E.n bytes){z:Value}{z0:α}(hz:(P.info? e).bind (·.zero)=some z)(hone:z.cells=#[z])(hR:∀M w,E.R M w [z] z0){x y:Operand}{k k':IntKind}{m:Int}{xs:List α}(hI:Hp w0 Mu M σ w)(hx:ev L x=some (.int k m))(hy:ev L y=some (.int k' m))(hm:mko bytes z0 m=some xs)(hN:blt d N=true)(h:∀v' w',Hp w0 Mu M (ownR [] E e v' xs::σ) w'->Adv (mm σ M) (mm (ownR [] E e v' xs::σ) M) w w'->Reg P N ops .seq rest ds ((d,v')::L) w' A B X Z):
  Reg P N ops .seq (⟨some d,.makeSlice t x y,ty,pos,af,none⟩::rest) ds L w A B X Z:=by
 obtain⟨⟨h0,hb,hmx⟩,rfl⟩:=ASy hm
 obtain⟨i,z',hi0,hz',hs,hby,hzs⟩:=T.info
 have hzz:z'=z:=by
  have:(P.info? e).bind (·.zero)=some z':=by rw[hi0];exact hz'
  rw[hz]at this;exact(AaO this).symm
 subst hzz
 have hn1:E.n=1:=by rw[<-hzs,hone];rfl
 have hcells:madeCells z'.cells (m.toNat*i.size)=(replicate m.toNat z').toArray:=by
  rw[hs,hn1,hone,Nat.mul_one];apply Array.ext
  . simp[madeCells]
  . intro j h1 h2;simp[madeCells,Nat.mod_one]
 obtain⟨n,rfl⟩:∃n:Nat,m=n:=⟨m.toNat,by omega⟩
 rw[Int.toNat_natCast]at hcells h
 let w1:=w.alloc (.cells (replicate n z').toArray e)
 have hx':Ext w w1:=Kp.alloc _ _ _
 have hown:Own E e 0 (mm σ M) w1 (.slice (some ⟨w.heap.size,0,none⟩) n n) (replicate n z0):=by
  cases n with
  |zero=>exact .inl ⟨_,rfl,rfl⟩
  |succ j=>
   refine .inr ⟨w.heap.size,j,(replicate (j+1) z').toArray,by simp,Nat.zero_le _,heap_alloc_new w _,by simp,by simp only[maxLen];omega,by simp[hn1],?_⟩
   rw[hn1,Nat.mul_one,List.length_replicate]
   rw[Aa7 (by simp)]
   exact Chunks.same (hR _ _) _
 have hnew:∀b∈ob (.slice (some ⟨w.heap.size,0,none⟩) n n),w.heap.size<=b:=fun b hb=>by
  cases n with
  |zero=>cases hb
  |succ m=>
   have:b=w.heap.size:=by simpa[ob] using hb
   omega
 have hn':∀b∈(ownR [] E e (.slice (some ⟨w.heap.size,0,none⟩) n n) (replicate n z0)).fp,w.heap.size<=b/\b<w1.heap.size:=fun b hb=>⟨hnew b hb,(hown.ge b hb).2⟩
 refine N0 (.slice (some ⟨w.heap.size,0,none⟩) n n) w1 rfl rfl hN (fun a ha=>?_) (h _ _ (hI.add hx' hn' rfl (hown.mon fun b hb=>(mem_append.1 hb).elim .inl .inr)) (hI.addA hx' hn'))
 have hr:=run_make (P:=P) w t e i z' T.und hi0 hz' k k' (n:Int) (n:Int) (by omega) (Int.le_refl _) (by rw[hby];omega) (by omega)
 rw[Int.toNat_natCast,hcells]at hr
 simp[execOp,ha.eval hx,ha.eval hy,hr,w1]
end
end Go.Sx
namespace Go.Sx
open Go Go.RowKit Go.ChangeMaps
variable[Trk]
def Vl{α:Type}(E:Enc α)(ag:Bool)(M:List Nat)(w:World)(v:Value)(x:α):Prop:=∃cs,E.R M w cs x/\((ag=true/\v=.agg cs.toArray)\/(ag=false/\cs=[v]))
section
variable{α:Type}{E:Enc α}{ag:Bool}{M:List Nat}{M':List Nat}{w:World}{v:Value}{x:α}
theorem Vl.adv{w w':World}(ha:Adv M M' w w')(h:Vl E ag M w v x):Vl E ag M' w' v x:=by
 obtain⟨cs,h1,h2⟩:=h;exact⟨cs,E.adv h1 ha,h2⟩
theorem Vl.mon(ha:∀b∈M',b∈M\/w.heap.size<=b)(h:Vl E ag M w v x):Vl E ag M' w v x:=by
 obtain⟨cs,h1,h2⟩:=h;exact⟨cs,E.mon ha h1,h2⟩
end
abbrev A4(κ α:Type):=κ->Option α
section
variable{κ α:Type}
def fnone:A4 κ α:=fun _=>none
def B4[DecidableEq κ](f:A4 κ α)(a:κ)(z:α):A4 κ α:=fun k=>if k=a then some z else f k
def Z7[DecidableEq κ](f:A4 κ α)(a:κ):A4 κ α:=fun k=>if k=a then none else f k
def Lists(f:A4 κ α)(l:List (κ×α)):Prop:=(l.map (·.1)).Nodup/\∀a y,(a,y)∈l↔f a=some y
section
variable{f:A4 κ α}{a:κ}{j:Nat}{y:α}
theorem Lists.perm{l l':List (κ×α)}(h:Lists f l)(hp:l'.Perm l):Lists f l':=
 ⟨(hp.map _).nodup_iff.2 h.1,fun a y=>hp.mem_iff.trans (h.2 a y)⟩
theorem Lists.nil:Lists (fnone:A4 κ α) []:=⟨Abw,fun a y=>by simp[fnone]⟩
theorem Lists.none{f:A4 κ α}{l:List (κ×α)}(h:Lists f l){a:κ}(ha:∀x∈l,x.1≠a):f a=none:=by
 cases hf:f a with
 |none=>rfl
 |some y=>exact absurd rfl (ha _ ((h.2 a y).2 hf))
theorem Lists.push[DecidableEq κ]{l:List (κ×α)}(h:Lists f l)(z:α)(ha:∀x∈l,x.1≠a):Lists (B4 f a z) (l++[(a,z)]):=by
 refine⟨?_,fun k y=>?_⟩
 . rw[Aai,AcS];refine⟨h.1,by simp,fun x hx y hy=>?_⟩;obtain⟨p,hp,rfl⟩:=mem_map.1 hx;have:y=a:=by simpa using hy
   rw[this];exact ha p hp
 . rw[Aaq,h.2];by_cases e:k=a
   . subst e;have h0:f k=Option.none:=h.none ha;simp[B4,h0,eq_comm]
   . simp[B4,e]
theorem AK1{l:List (κ×α)}(hn:(l.map (·.1)).Nodup){i j:Nat}{x y:κ×α}(hi:l[i]?=some x)(hj:l[j]?=some y)(he:x.1=y.1):i=j:=by
 have hi':(l.map (·.1))[i]?=some x.1:=by simp[hi]
 have hj':(l.map (·.1))[j]?=some x.1:=by simp[hj,he]
 have li:i<(l.map (·.1)).length:=by
  rcases Aag i (l.map (·.1)).length with h|h
  . exact h
  . rw[Aaa h]at hi';cases hi'
 exact(List.getElem?_inj li hn).1 (hi'.trans hj'.symm)
theorem Lists.set[DecidableEq κ]{l:List (κ×α)}(h:Lists f l)(hj:l[j]?=some (a,y))(z:α):Lists (B4 f a z) (l.set j (a,z)):=by
 have hlt:j<l.length:=by
  rcases Aag j l.length with h|h
  . exact h
  . rw[Aaa h]at hj;cases hj
 refine⟨?_,fun k w=>?_⟩
 . have:(l.set j (a,z)).map (·.1)=l.map (·.1):=by
    rw[List.map_set];refine Aa9 fun i=>?_;rw[Abv];split
    . rename_i e;subst e;simp[hlt];have:=AaV hlt;rw[hj]at this;exact(AaX Prod.fst (AaO this))
    . rfl
   rw[this];exact h.1
 . constructor
   . intro hm;obtain⟨i,hi⟩:=Aar hm;rw[Abv]at hi;split at hi
     . simp at hi;obtain⟨rfl,rfl⟩:=hi;simp[B4]
     . rename_i hne;have hk:k≠a:=fun e=>hne (AK1 h.1 hj hi (by simp[e]));have:=(h.2 k w).1 (AaP hi);simpa[B4,hk] using this
   . intro hf;by_cases e:k=a
     . subst e;simp[B4]at hf;subst hf;exact AaP (i:=j) (by simp[hlt])
     . simp[B4,e]at hf;obtain⟨i,hi⟩:=Aar ((h.2 k w).2 hf);refine AaP (i:=i) ?_;rw[Abv,if_neg,hi];intro e2;subst e2;rw[hj]at hi;cases hi;exact e rfl
theorem Lists.del[DecidableEq κ]{l:List (κ×α)}(h:Lists f l)(hj:l[j]?=some (a,y)):Lists (Z7 f a) (l.eraseIdx j):=by
 refine⟨(Abq _ (Aal l j)).nodup h.1,fun k w=>?_⟩;rw[List.mem_eraseIdx_iff_getElem?];constructor
 . rintro⟨i,hne,hi⟩;have hk:k≠a:=fun e=>hne (AK1 h.1 hi hj (by simp[e]));have:=(h.2 k w).1 (AaP hi);simpa[Z7,hk] using this
 . intro hf;by_cases e:k=a
   . simp[Z7,e]at hf
   . simp[Z7,e]at hf;obtain⟨i,hi⟩:=Aar ((h.2 k w).2 hf);refine⟨i,fun e2=>?_,hi⟩;subst e2;rw[hj]at hi;cases hi;exact e rfl
theorem Lists.del0[DecidableEq κ]{l:List (κ×α)}(h:Lists f l)(ha:∀x∈l,x.1≠a):Lists (Z7 f a) l:=by
 have:Z7 f a=f:=by
  funext k;by_cases e:k=a
  . subst e;simp[Z7,h.none ha]
  . simp[Z7,e]
 rw[this];exact h
end
end
def AnyR{S β:Type}(f:S->β->Option S)(l:List β)(s:S)(r:S):Prop:=∀l':List β,l'.Perm l->l'.foldlM f s=some r
theorem AnyR.nil{S β:Type}{f:S->β->Option S}{s r:S}(h:AnyR f [] s r):s=r:=by
 have:=h [] (Abc _);simpa using this
theorem AnyR.step{S β:Type}{f:S->β->Option S}{l l':List β}{x:β}{s r:S}(h:AnyR f l s r)(hp:l.Perm (x::l')):∃s',f s x=some s'/\AnyR f l' s' r:=by
 have h1:∀l'':List β,l''.Perm l'->(x::l'').foldlM f s=some r:=fun l'' hl=>h _ ((hl.cons x).trans hp.symm);have h2:=h1 l' (Abc _);rw[AbM]at h2;cases hf:f s x with
 |none=>rw[hf]at h2;cases h2
 |some s'=>
  refine⟨s',rfl,fun l'' hl=>?_⟩
  have h3:=h1 l'' hl
  rw[AbM,hf]at h3
  exact h3
open Classical in
def AK2{S κ α:Type}(f:S->κ×α->Option S)(m:A4 κ α)(s:S):Option S:=if h:∃r,∀l,Lists m l->l.foldlM f s=some r then some h.choose else none
theorem AQl{S κ α:Type}{f:S->κ×α->Option S}{m:A4 κ α}{s r:S}(h:AK2 f m s=some r){l:List (κ×α)}(hl:Lists m l):AnyR f l s r:=by
 unfold AK2 at h;split at h
 . rename_i h1;rw[<-AaO h];exact fun l' hp=>h1.choose_spec l' (hl.perm hp)
 . cases h
theorem ASz{S κ α:Type}{f:S->κ×α->Option S}{m:A4 κ α}{s r:S}{l0:List (κ×α)}(h0:Lists m l0)(h:∀l,Lists m l->l.foldlM f s=some r):AK2 f m s=some r:=by
 unfold AK2;rw[dif_pos ⟨r,h⟩];have h1:=(⟨r,h⟩:∃r,∀l,Lists m l->l.foldlM f s=some r).choose_spec l0 h0;rw[h l0 h0]at h1;exact h1.symm
structure Ky(P:Program)(kt:TypeId)(κ:Type)where
 val:κ->Value
 ok:κ->Prop
 inj:∀{a b:κ},ok a->ok b->val a=val b->a=b
 check:∀{a:κ},ok a->∀(w:World) (em:Bool),(Instr.checkKey em 10000 kt (val a)).run P w=.ok () w
 find:∀{a:κ},ok a->∀(es:List MapEntry),(∀e∈es,∃b,ok b/\e.key=val b)->((∀w,(Instr.findKey kt (val a) es).run P w=.ok none w)/\∀e∈es,e.key≠val a)\/∃j e,(∀w,(Instr.findKey kt (val a) es).run P w=.ok (some (j,e.val)) w)/\es[j]?=some e/\e.key=val a
 stays:∀{a:κ},ok a->∀w,(Instr.keyThatStays (val a) (val a)).run P w=.ok (val a) w
def V6{P:Program}{kt:TypeId}(q:IntKind)(hk:P.underlying kt=some (.int q)):Ky P kt Int where
 val:=fun a=>.int q a
 ok:=InK q
 inj:=fun _ _ h=>by cases h;rfl
 check:=fun {a} _ w em=>MapKept.run_checkKey (d:=.int q) (k:=.int q a) hk rfl em 9999
 find:=fun {a} _ es hes=>by
  have hks:∀x∈es,MapKept.IsKey (.int q) x.key:=fun x hx=>by
   obtain⟨b,_,hb⟩:=hes x hx;rw[hb];exact rfl
  rcases MapKept.findNow_spec (d:=.int q) (k:=.int q a) rfl es 0 hks with⟨h1,h2⟩|⟨j,e,h1,h2,h3⟩
  . exact .inl ⟨fun w=>MapKept.run_findKey hk h1,h2⟩
  . exact .inr ⟨j,e,fun w=>by simpa using MapKept.run_findKey (w:=w) hk h1,h2,h3⟩
 stays:=fun {a} _ w=>MapKept.run_keyThatStays (d:=.int q) (k:=.int q a) rfl
def Stp(es:Array MapEntry)(c:Nat):Prop:=(es.toList.map (·.born)).Nodup/\∀x∈es.toList,x.born<c
section
variable{P:Program}{kt:TypeId}{κ α:Type}{K:Ky P kt κ}{E:Enc α}{ag:Bool}
def EntK(K:Ky P kt κ)(E:Enc α)(ag:Bool)(M:List Nat)(w:World):List MapEntry->List (κ×α)->Prop
 |[],[]=>True
 |e::es,x::xs=>(e.key=K.val x.1/\K.ok x.1)/\Vl E ag M w e.val x.2/\EntK K E ag M w es xs
 |_,_=>False
section
variable{M:List Nat}{M':List Nat}{w:World}{w':World}{a:κ}{v:Value}{z:α}{f:A4 κ α}
theorem EntK.adv(ha:Adv M M' w w'):∀{es:List MapEntry} {xs:List (κ×α)},EntK K E ag M w es xs->EntK K E ag M' w' es xs
 |[],[],h=>h
 |_::_,_::_,⟨h1,h2,h3⟩=>⟨h1,h2.adv ha,EntK.adv ha h3⟩
 |[],_::_,h=>h.elim
 |_::_,[],h=>h.elim
theorem EntK.mon(ha:∀b∈M',b∈M\/w.heap.size<=b):∀{es:List MapEntry} {xs:List (κ×α)},EntK K E ag M w es xs->EntK K E ag M' w es xs
 |[],[],h=>h
 |_::_,_::_,⟨h1,h2,h3⟩=>⟨h1,h2.mon ha,EntK.mon ha h3⟩
 |[],_::_,h=>h.elim
 |_::_,[],h=>h.elim
theorem EntK.len:∀{es:List MapEntry} {xs:List (κ×α)},EntK K E ag M w es xs->es.length=xs.length
 |[],[],_=>rfl
 |_::_,_::_,⟨_,_,h⟩=>by simp[EntK.len h]
 |[],_::_,h=>h.elim
 |_::_,[],h=>h.elim
theorem EntK.at{M:List Nat}{w:World}:∀{es:List MapEntry} {xs:List (κ×α)},EntK K E ag M w es xs->∀{j:Nat} {e:MapEntry},es[j]?=some e->∃x,xs[j]?=some x/\e.key=K.val x.1/\K.ok x.1/\Vl E ag M w e.val x.2
 |[],_,_,j,e,he=>by simp at he
 |e::es,x::xs,⟨h1,h2,h3⟩,0,e',he=>by simp at he;subst he;exact⟨x,rfl,h1.1,h1.2,h2⟩
 |e::es,x::xs,⟨h1,h2,h3⟩,j+1,e',he=>by simpa using EntK.at h3 (j:=j) (e:=e') (by simpa using he)
 |_::_,[],h,_,_,_=>h.elim
theorem EntK.back:∀{es:List MapEntry} {xs:List (κ×α)},EntK K E ag M w es xs->∀x∈xs,∃e∈es,e.key=K.val x.1
 |[],[],_,x,hx=>by cases hx
 |e::es,x::xs,⟨h1,h2,h3⟩,y,hy=>by
  rcases mem_cons.1 hy with rfl|hy
  . exact⟨e,by simp,h1.1⟩
  . obtain⟨e',h4,h5⟩:=EntK.back h3 y hy;exact⟨e',AaQ _ h4,h5⟩
 |[],_::_,h,_,_=>h.elim
 |_::_,[],h,_,_=>h.elim
theorem EntK.keys{es:List MapEntry}{xs:List (κ×α)}(h:EntK K E ag M w es xs):∀e∈es,∃b,K.ok b/\e.key=K.val b:=fun e he=>by
 obtain⟨j,hj⟩:=Aar he;obtain⟨x,_,h1,h2,_⟩:=h.at hj;exact⟨x.1,h2,h1⟩
theorem EntK.push{c:Nat}(ha:K.ok a)(hv:Vl E ag M w v z):∀{es:List MapEntry} {xs:List (κ×α)},EntK K E ag M w es xs->EntK K E ag M w (es++[⟨K.val a,v,c⟩]) (xs++[(a,z)])
 |[],[],_=>⟨⟨rfl,ha⟩,hv,trivial⟩
 |_::_,_::_,⟨h1,h2,h3⟩=>⟨h1,h2,EntK.push ha hv h3⟩
 |[],_::_,h=>h.elim
 |_::_,[],h=>h.elim
theorem EntK.set(ha:K.ok a)(hv:Vl E ag M w v z):∀{es:List MapEntry} {xs:List (κ×α)} (j:Nat),EntK K E ag M w es xs->EntK K E ag M w (es.modify j fun e=>{ e with key:=K.val a,val:=v }) (xs.set j (a,z))
 |[],[],_,_=>by simp[EntK]
 |_::_,_::_,0,⟨h1,h2,h3⟩=>⟨⟨rfl,ha⟩,hv,h3⟩
 |_::_,_::_,j+1,⟨h1,h2,h3⟩=>⟨h1,h2,EntK.set ha hv j h3⟩
 |[],_::_,_,h=>h.elim
 |_::_,[],_,h=>h.elim
theorem EntK.erase:∀{es:List MapEntry} {xs:List (κ×α)} (j:Nat),EntK K E ag M w es xs->EntK K E ag M w (es.eraseIdx j) (xs.eraseIdx j)
 |[],[],_,_=>by simp[EntK]
 |_::_,_::_,0,⟨_,_,h3⟩=>h3
 |_::_,_::_,j+1,⟨h1,h2,h3⟩=>⟨h1,h2,EntK.erase j h3⟩
 |[],_::_,_,h=>h.elim
 |_::_,[],_,h=>h.elim
def MapH(K:Ky P kt κ)(E:Enc α)(ag:Bool)(M:List Nat)(w:World)(b:Nat)(f:A4 κ α):Prop:=
 ∃es c xs,w.heap[b]?=some (.map es c)/\Stp es c/\EntK K E ag M w es.toList xs/\Lists f xs
def mapO(K:Ky P kt κ)(E:Enc α)(ag:Bool)(b:Nat)(f:A4 κ α):Res where
 fp:=[b]
 mu:=[]
 holds:=fun M w=>MapH K E ag M w b f
 adv:=fun ha hb h=>by
  obtain⟨es,c,xs,h1,h2,h3,h4⟩:=h;exact⟨es,c,xs,(hb b (by simp)).trans h1,h2,h3.adv ha,h4⟩
 lt:=fun h x hx=>by
  obtain⟨es,c,xs,h1,_⟩:=h;have:x=b:=by simpa using hx
  subst this;exact G0 h1
def RdF(K:Ky P kt κ)(E:Enc α)(ag:Bool)(M:List Nat)(w:World)(v:Value)(f:A4 κ α):Prop:=∃b,v=.map (some b)/\b∉M/\MapH K E ag M w b f
theorem RdF.adv(h:RdF K E ag M w v f)(ha:Adv M M' w w'):RdF K E ag M' w' v f:=by
 obtain⟨b,rfl,hb,es,c,xs,h1,h2,h3,h4⟩:=h;have hlt:=G0 h1;exact⟨b,rfl,fun hb'=>(ha.new b hb').elim hb (fun h=>absurd hlt (by omega)),es,c,xs,(ha.kp.block b hlt hb).trans h1,h2,h3.adv ha,h4⟩
theorem RdF.oneC(h:RdF K E ag M w v f):v.oneCell'=true:=by
 obtain⟨b,rfl,_⟩:=h;rfl
end
variable{N:Nat}{ops:Array Oper}{q:Md}{rest:List Oper}{ds:List Deferred}{L:A8}{w w0:World}{A B:A5}{X:Nat->A5}{Z:List PanicEntry->A5}{d:Nat}{ty:TypeId}{pos:String}{af:Array Edge}{Mu M:List Nat}{σ:List Res}
section
variable{b:Nat}{f:A4 κ α}{t:TypeId}{e:TypeId}{a:κ}{z0:α}{x:Operand}{y:Operand}
theorem Hp.mapAt'[Fx](h:Hp w0 Mu M σ w)(i:Nat)(hi:σ[i]?=some (mapO K E ag b f)):MapH K E ag (mm σ M) w b f:=h.get i hi
theorem Hp.freezeM[Fx](h:Hp w0 Mu M σ w)(i:Nat)(hi:σ[i]?=some (mapO K E ag b f)):RdF K E ag (mm (σ.eraseIdx i) M) w (.map (some b)) f:=by
 obtain⟨es,c,xs,h1,h2,h3,h4⟩:=h.mapAt' i hi;exact⟨b,rfl,h.apart i hi b (by simp[mapO]),es,c,xs,h1,h2,h3.mon fun x hx=>.inl (AAQ (Aal σ i) hx),h4⟩
theorem MapH.lookup{zv:Value}(h:MapH K E ag M w b f)(ha:K.ok a)(ht:P.underlying t=some (.map kt e))(hz:∀w,(zeroValue e).run P w=.ok zv w)(hzR:Vl E ag M w zv z0):
  ∃v,(∀cm w',w'.heap[b]?=w.heap[b]?->(Instr.lookup t (.map (some b)) (K.val a) cm).run P w'=.ok (if cm then .tuple #[v,.bool (f a).isSome] else v) w')/\Vl E ag M w v ((f a).getD z0):=by
 obtain⟨es,c,xs,h1,h2,h3,h4⟩:=h
 rcases K.find ha es.toList h3.keys with⟨g1,g2⟩|⟨j,e',g1,g2,g3⟩
 . have hf:f a=none:=h4.none fun x hx he=>by
    obtain⟨e',h5,h6⟩:=h3.back x hx;exact g2 e' h5 (by rw[h6,he])
   refine⟨zv,fun cm w' hw=>?_,by rw[hf];exact hzR⟩
   have h1:=hw.trans h1
   cases cm<;>simp[Instr.lookup,run_underlying ht,MapKept.run_getObj_map h1,K.check ha,g1,hz,hf]
 . obtain⟨x,hx,hk,hok,hv⟩:=h3.at g2
   have hxa:x.1=a:=K.inj hok ha (by rw[<-hk,g3])
   have hf:f a=some x.2:=(h4.2 a x.2).1 (by rw[<-hxa];exact AaP hx)
   refine⟨e'.val,fun cm w' hw=>?_,by rw[hf];exact hv⟩
   have h1:=hw.trans h1
   cases cm<;>simp[Instr.lookup,run_underlying ht,MapKept.run_getObj_map h1,K.check ha,g1,hf]
theorem AKQ[Fx](K:Ky P kt κ)(E:Enc α)(ag:Bool)(hI:Hp w0 Mu M σ w)(hN:blt d N=true)(h:∀b w',Hp w0 Mu M (mapO K E ag b fnone::σ) w'->Adv (mm σ M) (mm (mapO K E ag b fnone::σ) M) w w'->Reg P N ops .seq rest ds ((d,.map (some b))::L) w' A B X Z):
  Reg P N ops .seq (⟨some d,.makeMap t none,ty,pos,af,none⟩::rest) ds L w A B X Z:=by
 have hx:Ext w (w.alloc (.map #[] 0)):=Kp.alloc _ _ _
 have hn:∀b∈(mapO K E ag w.heap.size fnone).fp,w.heap.size<=b/\b<(w.alloc (.map #[] 0)).heap.size:=fun b hb=>by
  have:b=w.heap.size:=by simpa[mapO] using hb
  subst this;exact⟨Aae _,by show w.heap.size<(w.heap.push _).size;simp⟩
 refine N0 (.map (some w.heap.size)) (w.alloc (.map #[] 0)) rfl rfl hN (fun a ha=>?_) (h _ _ (hI.add hx hn rfl ⟨#[],0,[],heap_alloc_new w _,⟨by simp,fun x hx=>by simp at hx⟩,trivial,Lists.nil⟩) (hI.addA hx hn))
 have hr:(Instr.makeMap t none).run P w=.ok (.map (some w.heap.size)) (w.alloc (.map #[] 0)):=rfl
 simp[execOp,hr]
theorem AWi[Fx](i:Nat){zv:Value}(hI:Hp w0 Mu M σ w)(hi:σ[i]?=some (mapO K E ag b f))(hx:ev L x=some (.map (some b)))(hy:ev L y=some (K.val a))(ha:K.ok a)(ht:P.underlying t=some (.map kt e))(hz:∀w,(zeroValue e).run P w=.ok zv w)(hzR:Vl E ag (mm σ M) w zv z0)(hN:blt d N=true)(h:∀v,Vl E ag (mm σ M) w v ((f a).getD z0)->Reg P N ops .seq rest ds ((d,.tuple #[v,.bool (f a).isSome])::L) w A B X Z):
  Reg P N ops .seq (⟨some d,.lookup t x y true,ty,pos,af,none⟩::rest) ds L w A B X Z:=by
 obtain⟨v,h1,h2⟩:=(hI.mapAt' i hi).lookup ha ht hz hzR
 refine N0 _ w rfl rfl hN (fun A hA=>?_) (h v h2)
 simp[execOp,hA.eval hx,hA.eval hy,h1 _ w rfl]
theorem APM[Fx](i:Nat){zv:Value}(hI:Hp w0 Mu M σ w)(hi:σ[i]?=some (mapO K E ag b f))(hx:ev L x=some (.map (some b)))(hy:ev L y=some (K.val a))(ha:K.ok a)(ht:P.underlying t=some (.map kt e))(hz:∀w,(zeroValue e).run P w=.ok zv w)(hzR:Vl E ag (mm σ M) w zv z0)(hN:blt d N=true)(h:∀v,Vl E ag (mm σ M) w v ((f a).getD z0)->Reg P N ops .seq rest ds ((d,v)::L) w A B X Z):
  Reg P N ops .seq (⟨some d,.lookup t x y false,ty,pos,af,none⟩::rest) ds L w A B X Z:=by
 obtain⟨v,h1,h2⟩:=(hI.mapAt' i hi).lookup ha ht hz hzR
 refine N0 _ w rfl rfl hN (fun A hA=>?_) (h v h2)
 simp[execOp,hA.eval hx,hA.eval hy,h1 _ w rfl]
theorem ASI{t e n:Nat}{k k2:IntKind}{i z:Int}{xs:List Int}{M:List Nat}(hC:RdC M w b 0 (xs.map (Value.int k2)))(hx:ev L x=some (.pointer (some ⟨b,0,none⟩)))(hy:ev L y=some (.int k i))(hi:ixo xs i=some z)(ht:P.underlying t=some (.array n e))(hn:n=xs.length)(hs:∀w,(sizeOf e).run P w=.ok 1 w)(hN:blt d N=true)(h:RdC M w b i.toNat [.int k2 z]->Reg P N ops q rest ds ((d,.pointer (some ⟨b,i.toNat,none⟩))::L) w A B X Z):Reg P N ops q (⟨some d,.indexAddr t x y,ty,pos,af,none⟩::rest) ds L w A B X Z:=by
 obtain⟨h0,h1,hz⟩:=AAd hi;have hin:i.toNat<xs.length:=by omega
 subst hn;have hcell:RdC M w b i.toNat [.int k2 z]:=⟨hC.out,hC.lt,fun j v hj=>by
  cases j with
  |zero=>
   simp at hj;subst hj
   have:=hC.cells i.toNat (.int k2 z) (by simp[hz])
   simpa using this
  |succ j=>simp at hj⟩
 refine Reg.val (.pointer (some ⟨b,i.toNat,none⟩)) rfl rfl hN (fun a ha w' _=>?_) (h hcell);simp[execOp,ha.eval hx,ha.eval hy,Instr.indexAt,asIntOf,run_underlying ht,Instr.sureAddr,h0,h1,hs,add_none]
theorem AET{o o':Obj}(h1:w.heap[b]?=some o):Kp [b] w (setBlock w b o'):=
 ⟨rfl,rfl,rfl,by simp[setBlock],fun j hj hm=>(MapKept.heap_set (o':=o') h1).2 j (by simpa using hm),fun _=>Aae _⟩
end
variable[DecidableEq κ]
theorem AKR[Fx](i:Nat){b:Nat}{f:A4 κ α}{z:α}{v:Value}{x y u:Operand}{t e:TypeId}{a:κ}(hI:Hp w0 Mu M σ w)(hi:σ[i]?=some (mapO K E ag b f))(hx:ev L x=some (.map (some b)))(hy:ev L y=some (K.val a))(ha:K.ok a)(hu:ev L u=some v)(hv:Vl E ag (mm σ M) w v z)(ht:P.underlying t=some (.map kt e))(h:∀w',Hp w0 Mu M (σ.set i (mapO K E ag b (B4 f a z))) w'->Adv (mm σ M) (mm (σ.set i (mapO K E ag b (B4 f a z))) M) w w'->Reg P N ops .seq rest ds L w' A B X Z):
  Reg P N ops .seq (⟨none,.mapUpdate t x y u,ty,pos,af,none⟩::rest) ds L w A B X Z:=by
 obtain⟨es,c,xs,h1,h2,h3,h4⟩:=hI.mapAt' i hi
 have key':∃es' c' xs',(Instr.mapUpdate t (.map (some b)) (K.val a) v).run P w=.ok () (setBlock w b (.map es' c'))/\Stp es' c'/\EntK K E ag (mm σ M) w es'.toList xs'/\Lists (B4 f a z) xs':=by
  rcases K.find ha es.toList h3.keys with⟨g1,g2⟩|⟨j,e',g1,g2,g3⟩
  . refine⟨es.push ⟨K.val a,v,c⟩,c+1,xs++[(a,z)],?_,⟨?_,fun x hx=>?_⟩,?_,h4.push z fun x hx he=>?_⟩
    . simp[Instr.mapUpdate,run_underlying ht,MapKept.run_getObj_map h1,K.check ha,g1,MapKept.run_setObj_map _ h1,Result.andThen,setBlock]
    . rw[Abj,Aai,AcS];refine⟨h2.1,by simp,fun x hx y hy=>?_⟩;obtain⟨p,hp,rfl⟩:=mem_map.1 hx;have:=h2.2 p hp;have:y=c:=by simpa using hy
      omega
    . rw[Abj,Aaq]at hx;rcases hx with hx|hx
      . have:=h2.2 x hx;omega
      . have:x=⟨K.val a,v,c⟩:=by simpa using hx
        subst this;exact Abm c
    . rw[Abj];exact h3.push ha hv
    . obtain⟨e',h5,h6⟩:=h3.back x hx;exact g2 e' h5 (by rw[h6,he])
  . obtain⟨x',hx',hk,hok,hv'⟩:=h3.at g2;have hxa:x'.1=a:=K.inj hok ha (by rw[<-hk,g3]);have g4:es[j]?=some e':=by simpa using g2
    refine⟨es.modify j fun e=>{ e with key:=K.val a,val:=v },c,xs.set j (a,z),?_,⟨?_,fun x hx=>?_⟩,?_,h4.set (y:=x'.2) (by rw[hx',<-hxa]) z⟩
    . simp[Instr.mapUpdate,run_underlying ht,MapKept.run_getObj_map h1,K.check ha,g1,g4,g3,K.stays ha,MapKept.run_setObj_map _ h1,Result.andThen,setBlock]
    . have:((es.modify j fun e=>{ e with key:=K.val a,val:=v }).toList.map (·.born))=es.toList.map (·.born):=by
       rw[AbI];refine Aa9 fun i=>?_;simp only[List.getElem?_map,List.getElem?_modify];by_cases e:j=i
       . subst e;cases es.toList[j]? <;> simp
       . simp[e]
      rw[this];exact h2.1
    . rw[AbI]at hx;obtain⟨m,hm⟩:=Aar hx;rw[AbS]at hm;cases hq:es.toList[m]? with
      |none=>rw[hq]at hm;cases hm
      |some e0=>
       rw[hq]at hm
       have:=h2.2 e0 (AaP hq)
       by_cases e:j=m
       . simp[e]at hm;subst hm;exact this
       . simp[e]at hm;subst hm;exact this
    . rw[AbI];exact h3.set ha hv j
 obtain⟨es',c',xs',hr,hS,hE,hL⟩:=key'
 have hkp:Kp [b] w (setBlock w b (.map es' c')):=AET h1
 have hn:∀b'∈(mapO K E ag b (B4 f a z)).fp,b'∈(mapO K E ag b f).fp\/w.heap.size<=b':=fun b' hb=>.inl hb
 refine Reg.sto (setBlock w b (.map es' c')) rfl rfl (fun A hA=>?_) (h _ (hI.upd i hi hkp hn rfl fun M' hM'=>⟨es',c',xs',(MapKept.heap_set h1).1,hS,?_,hL⟩) (hI.updA (r':=mapO K E ag b (B4 f a z)) i hi hkp hn))
 . simp[execOp,hA.eval hx,hA.eval hy,hA.eval hu,hr]
 . have hb:b∈mm σ M:=mem_mm.2 (.inl ⟨_,AaP hi,by simp[mapO]⟩)
   refine(hE.adv ⟨hkp.mono fun x hx=>.inl ?_,fun x hx=>.inl hx⟩).mon fun x hx=>.inl ?_
   . have:x=b:=by simpa using hx
     subst this;exact hb
   . rcases hM' x hx with h9|h9
     . have:x=b:=by simpa[mapO] using h9
       subst this;exact hb
     . exact h9
theorem AWj[Fx](i:Nat){b:Nat}{f:A4 κ α}{x y:Operand}{t kt' e:TypeId}{a:κ}(hI:Hp w0 Mu M σ w)(hi:σ[i]?=some (mapO K E ag b f))(hx:ev L x=some (.map (some b)))(hy:ev L y=some (K.val a))(ha:K.ok a)(ht:P.underlying t=some (.map kt e))(h:∀w',Hp w0 Mu M (σ.set i (mapO K E ag b (Z7 f a))) w'->Adv (mm σ M) (mm (σ.set i (mapO K E ag b (Z7 f a))) M) w w'->Reg P N ops .seq rest ds L w' A B X Z):
  Reg P N ops .seq (⟨none,.call ⟨.builtin .delete,#[x,y],#[t,kt']⟩,ty,pos,af,none⟩::rest) ds L w A B X Z:=by
 obtain⟨es,c,xs,h1,h2,h3,h4⟩:=hI.mapAt' i hi
 have key':∃es' xs',(∀ty,(Builtin.delete_ #[t,kt'] ty #[.map (some b),K.val a]).run P w=.ok (.tuple #[]) (setBlock w b (.map es' c)))/\Stp es' c/\EntK K E ag (mm σ M) w es'.toList xs'/\Lists (Z7 f a) xs':=by
  rcases K.find ha es.toList h3.keys with⟨g1,g2⟩|⟨j,e',g1,g2,g3⟩
  . refine⟨es,xs,fun ty=>?_,h2,h3,h4.del0 fun x hx he=>?_⟩
    . simp[Builtin.delete_,run_underlying ht,MapKept.run_getObj_map h1,K.check ha,g1,MapKept.run_setObj_map _ h1,Result.andThen,setBlock]
    . obtain⟨e',h5,h6⟩:=h3.back x hx;exact g2 e' h5 (by rw[h6,he])
  . obtain⟨x',hx',hk,hok,hv'⟩:=h3.at g2;have hxa:x'.1=a:=K.inj hok ha (by rw[<-hk,g3]);have hlt:j<es.size:=by
     rcases Aag j es.toList.length with h|h
     . simpa using h
     . rw[Aaa h]at g2;cases g2
    have hel:(es.eraseIdxIfInBounds j).toList=es.toList.eraseIdx j:=by simp[Array.eraseIdxIfInBounds,hlt]
    refine⟨es.eraseIdxIfInBounds j,xs.eraseIdx j,fun ty=>?_,⟨?_,fun x hx=>?_⟩,?_,h4.del (y:=x'.2) (by rw[hx',<-hxa])⟩
    . simp[Builtin.delete_,run_underlying ht,MapKept.run_getObj_map h1,K.check ha,g1,MapKept.run_setObj_map _ h1,Result.andThen,setBlock]
    . rw[hel];exact(Abq _ (Aal _ j)).nodup h2.1
    . rw[hel]at hx;exact h2.2 x ((Aal _ j).subset hx)
    . rw[hel];exact h3.erase j
 obtain⟨es',xs',hr,hS,hE,hL⟩:=key'
 have hkp:Kp [b] w (setBlock w b (.map es' c)):=AET h1
 have hn:∀b'∈(mapO K E ag b (Z7 f a)).fp,b'∈(mapO K E ag b f).fp\/w.heap.size<=b':=fun b' hb=>.inl hb
 refine AHK (.tuple #[]) (setBlock w b (.map es' c)) rfl rfl (fun A hA=>?_) (h _ (hI.upd i hi hkp hn rfl fun M' hM'=>⟨es',c,xs',(MapKept.heap_set h1).1,hS,?_,hL⟩) (hI.updA (r':=mapO K E ag b (Z7 f a)) i hi hkp hn))
 . simp[execOp,resolve,invoke,builtin,hA.eval hx,hA.eval hy,hr]
 . have hb:b∈mm σ M:=mem_mm.2 (.inl ⟨_,AaP hi,by simp[mapO]⟩)
   refine(hE.adv ⟨hkp.mono fun x hx=>.inl ?_,fun x hx=>.inl hx⟩).mon fun x hx=>.inl ?_
   . have:x=b:=by simpa using hx
     subst this;exact hb
   . rcases hM' x hx with h9|h9
     . have:x=b:=by simpa[mapO] using h9
       subst this;exact hb
     . exact h9
end
end Go.Sx
namespace Go.Sx
open Go Go.RowKit
variable[Trk]
section
variable{α:Type}{E:Enc α}{M:List Nat}{w:World}{v:Value}{x:α}
theorem Vl.agg(h:Vl E true M w v x):∃cs,E.R M w cs x/\v=.agg cs.toArray:=by
 obtain⟨cs,h1,h2⟩:=h;rcases h2 with⟨_,h2⟩|⟨h2,_⟩
 . exact⟨cs,h1,h2⟩
 . cases h2
theorem Vl.one1(h:Vl E false M w v x):E.R M w [v] x:=by
 obtain⟨cs,h1,h2⟩:=h;rcases h2 with⟨h2,_⟩|⟨_,h2⟩
 . cases h2
 . exact h2▸h1
theorem AMz{v u:Value}(h:[v]=[u]):v=u:=List.singleton_inj.1 h
end
structure Tb where
 st:List (Nat×List (Nat×Nat))
 ag:List (Nat×Nat)
def lk{α:Type}:List (Nat×α)->Nat->Option α
 |[],_=>none
 |(k,v)::r,t=>bif beq k t then some v else lk r t
def nth{α:Type}:List α->Nat->Option α
 |[],_=>none
 |x::_,0=>some x
 |_::r,n+1=>nth r n
theorem Y9{α:Type}:∀(l:List α) (i:Nat),nth l i=l[i]?
 |[],_=>rfl
 |_::_,0=>rfl
 |_::l,n+1=>Y9 l n
def FlOk(P:Program)(fields:Array Field):Nat->List (Nat×Nat)->Prop
 |_,[]=>True
 |i,(o,t)::r=>(∃fl m,fields[i]?=some fl/\fl.offset=o/\fl.type=t/\∀w,(sizeOf t).run P w=.ok (m+1) w)/\FlOk P fields (i+1) r
def StOk(P:Program):List (Nat×List (Nat×Nat))->Prop
 |[]=>True
 |(s,l)::r=>(∃fields:Array Field,P.underlying s=some (.struct fields)/\FlOk P fields 0 l)/\StOk P r
def AgOk(P:Program):List (Nat×Nat)->Prop
 |[]=>True
 |(t,0)::r=>(∀w,(isAgg t).run P w=.ok false w)/\AgOk P r
 |(t,n+1)::r=>((∀w,(isAgg t).run P w=.ok true w)/\∀w,(sizeOf t).run P w=.ok n w)/\AgOk P r
class TbOk(P:Program)(tb:outParam Tb):Prop where
 st:StOk P tb.st
 ag:AgOk P tb.ag
theorem FlOk.at{P:Program}{fields:Array Field}:∀{l:List (Nat×Nat)} {i f o t:Nat},FlOk P fields i l->nth l f=some (o,t)->∃fl m,fields[i+f]?=some fl/\fl.offset=o/\fl.type=t/\∀w,(sizeOf t).run P w=.ok (m+1) w
 |[],_,_,_,_,_,h=>by cases h
 |(_,_)::_,_,0,_,_,h,e=>by cases e;exact h.1
 |(_,_)::r,i,f+1,_,_,h,e=>by
  have:=FlOk.at (f:=f) h.2 e;rwa [show i+1+f=i+(f+1) by omega]at this
theorem StOk.at{P:Program}:∀{l:List (Nat×List (Nat×Nat))} {s:Nat} {fl:List (Nat×Nat)},StOk P l->lk l s=some fl->∃fields:Array Field,P.underlying s=some (.struct fields)/\FlOk P fields 0 fl
 |[],_,_,_,h=>by cases h
 |(k,_)::r,s,_,h,e=>by
  simp only[lk]at e;cases hb:beq k s with
  |true=>rw[hb]at e;cases e;cases AaU hb;exact h.1
  |false=>rw[hb]at e;exact StOk.at h.2 e
theorem AgOk.at0{P:Program}:∀{l:List (Nat×Nat)} {t:Nat},AgOk P l->lk l t=some 0->∀w,(isAgg t).run P w=.ok false w
 |[],_,_,h=>by cases h
 |(k,z)::r,t,h,e=>by
  simp only[lk]at e;have hr:AgOk P r:=by cases z<;>exact h.2
  cases hb:beq k t with
  |true=>rw[hb]at e;cases e;cases AaU hb;exact h.1
  |false=>rw[hb]at e;exact AgOk.at0 hr e
theorem AgOk.at1{P:Program}:∀{l:List (Nat×Nat)} {t n:Nat},AgOk P l->lk l t=some (n+1)->(∀w,(isAgg t).run P w=.ok true w)/\∀w,(sizeOf t).run P w=.ok n w
 |[],_,_,_,h=>by cases h
 |(k,z)::r,t,n,h,e=>by
  simp only[lk]at e;have hr:AgOk P r:=by cases z<;>exact h.2
  cases hb:beq k t with
  |true=>rw[hb]at e;cases e;cases AaU hb;exact h.1
  |false=>rw[hb]at e;exact AgOk.at1 hr e
def kEq:IntKind->IntKind->Bool
 |.i8,.i8|.i16,.i16|.i32,.i32|.i64,.i64|.u8,.u8|.u16,.u16|.u32,.u32|.u64,.u64=>true
 |_,_=>false
theorem ADC{a b:IntKind}(h:kEq a b=true):a=b:=by cases a<;>cases b<;>first|rfl|cases h
def pu1(tb:Tb)(L:A8):Op->Option Value
 |.move x=>ev L x
 |.assign x=>ev L x
 |.nilCheck x=>match ev L x with
  |some (.pointer (some p))=>some (.pointer (some p))
  |_=>none
 |.fieldAddr s x f=>match ev L x with
  |some (.pointer (some ⟨b,o,none⟩))=>match lk tb.st s with
   |some l=>match nth l f with
    |some (k,_)=>some (.pointer (some ⟨b,o+k,none⟩))
    |none=>none
   |none=>none
  |_=>none
 |.field s x f=>match ev L x with
  |some (.agg cs)=>match lk tb.st s with
   |some l=>match nth l f with
    |some (k,t)=>match lk tb.ag t with
     |some 0=>nth cs.toList k
     |_=>none
    |none=>none
   |none=>none
  |_=>none
 |.extract x i=>match ev L x with
  |some (.tuple vs)=>nth vs.toList i
  |_=>none
 |.pick c x y=>match ev L c with
  |some (.bool true)=>ev L x
  |some (.bool false)=>ev L y
  |_=>none
 |.unOp .not _ x=>match ev L x with
  |some (.bool b)=>some (.bool (!b))
  |_=>none
 |.binOp b _ x y _=>match ev L x with
  |some (.int k i)=>match ev L y with
   |some (.int k' j)=>match kEq k k' with
    |true=>match b with
     |.lss=>some (.bool (decide (i<j)))
     |.leq=>some (.bool (decide (i<=j)))
     |.gtr=>some (.bool (decide (j<i)))
     |.geq=>some (.bool (decide (j<=i)))
     |.eql=>some (.bool (decide (i=j)))
     |.neq=>some (.bool (!decide (i=j)))
     |_=>none
    |false=>none
   |_=>none
  |_=>none
 |_=>none
abbrev Vw:=List (Nat×Nat×List Value)
def VwOk(w:World):Vw->Prop
 |[]=>True
 |(b,o,cs)::r=>Cells w b o cs/\VwOk w r
theorem v0{w:World}:VwOk w []:=trivial
theorem vc{w:World}{b o:Nat}{cs:List Value}{V:Vw}(h:Cells w b o cs)(hV:VwOk w V):VwOk w ((b,o,cs)::V):=⟨h,hV⟩
theorem VwOk.at{w:World}:∀{V:Vw} {i b o:Nat} {cs:List Value},VwOk w V->nth V i=some (b,o,cs)->Cells w b o cs
 |[],_,_,_,_,_,h=>by cases h
 |_::_,0,_,_,_,h,e=>by cases e;exact h.1
 |_::_,_+1,_,_,_,h,e=>VwOk.at (V:=_) h.2 e
def pu2(tb:Tb)(V:Vw)(L:A8)(i j:Nat):Op->Option (Value×List Nat×List Nat)
 |.load e x=>match ev L x with
  |some (.pointer (some ⟨b,o,none⟩))=>match nth V i with
   |some (b',o',cs)=>match lk tb.ag e with
    |some 0=>match nth cs j with
     |some v=>some (v,[b,o],[b',o'+j])
     |none=>none
    |some (n+1)=>some (.agg cs.toArray,[b,o,n],[b',o',cs.length])
    |none=>none
   |none=>none
  |_=>none
 |_=>none
def puG(ops:Array Oper)(L:A8):Option (Nat×Bool)->Option Nat
 |none=>some 0
 |some (j,b)=>match (ops[j]?).bind (·.dst) with
  |none=>none
  |some t=>match A6 L t with
   |some (.bool c)=>match c,b with
    |true,true=>some 0
    |false,false=>some 0
    |true,false=>some 1
    |false,true=>some 1
   |some (.tuple ⟨[]⟩)=>some 2
   |_=>none
def puC(tb:Tb)(V:Vw)(L:A8)(op:Op):Nat->Option (Value×List Nat×List Nat)
 |0=>match pu1 tb L op with
  |some v=>some (v,[],[])
  |none=>none
 |c+1=>pu2 tb V L (((c+1) / 100)-1) ((c+1) % 100) op
def puN(tb:Tb)(N:Nat)(ops:Array Oper)(V:Vw):List Nat->List Oper->A8->Option (List Oper×A8×List Nat×List Nat)
 |[],l,L=>some (l,L,[],[])
 |_::_,[],_=>none
 |c::r,⟨d,op,_,_,_,g⟩::l,L=>match d with
  |none=>none
  |some d=>match blt d N with
   |false=>none
   |true=>match puG ops L g with
    |some 0=>match puC tb V L op c with
     |some (v,as_,bs)=>match puN tb N ops V r l ((d,v)::L) with
      |some (l',L',as',bs')=>some (l',L',as_++as',bs++bs')
      |none=>none
     |none=>none
    |some (_+1)=>puN tb N ops V r l ((d,undef)::L)
    |none=>none
section
variable{P:Program}{N:Nat}{ops:Array Oper}{q:Md}{rest:List Oper}{ds:List Deferred}{L:A8}{w:World}{A B:A5}{X:Nat->A5}{Z:List PanicEntry->A5}
section
variable{tb:Tb}{d:Nat}{op:Op}{af:Array Edge}{v:Value}{as_:List Nat}{bs:List Nat}
theorem AUM(hst:StOk P tb.st)(hag:AgOk P tb.ag){ty:TypeId}{pos:String}(hN:blt d N=true)(h:pu1 tb L op=some v)(k:Reg P N ops q rest ds ((d,v)::L) w A B X Z):
  Reg P N ops q (⟨some d,op,ty,pos,af,none⟩::rest) ds L w A B X Z:=by
 cases op<;>simp only[pu1]at h
 case move x=>exact E5 h hN k
 case assign x=>exact C6 h hN k
 case nilCheck x=>
  split at h
  . rename_i p hp;cases h;exact ADA hp hN k
  . cases h
 case fieldAddr s x f=>
  split at h
  . rename_i b o hp
    split at h
    . rename_i l hl
      split at h
      . rename_i o' t' hn
        cases h
        obtain⟨fields,hu,hf⟩:=hst.at hl
        obtain⟨fl,m,h1,h2,h3,h4⟩:=hf.at hn
        rw[Aao]at h1
        subst h2;subst h3
        exact M3 hp hu h1 h4 hN k
      . cases h
    . cases h
  . cases h
 case field s x f=>
  split at h
  . rename_i cs hp
    split at h
    . rename_i l hl
      split at h
      . rename_i o' t' hn
        split at h
        . rename_i ha
          obtain⟨fields,hu,hf⟩:=hst.at hl
          obtain⟨fl,m,h1,h2,h3,h4⟩:=hf.at hn
          rw[Aao]at h1
          subst h2;subst h3
          rw[Y9]at h
          exact AQg (cs:=cs.toList) (by simpa using hp) hu h1 (hag.at0 ha) h hN k
        . cases h
      . cases h
    . cases h
  . cases h
 case extract x i=>
  split at h
  . rename_i vs hp
    rw[Y9]at h
    exact AEx (vs:=vs.toList) (by simpa using hp) h hN k
  . cases h
 case pick c x y=>
  split at h
  . rename_i hc;exact ANv hc h hN k
  . rename_i hc;exact ANw hc h hN k
  . cases h
 case unOp u t x=>
  cases u<;>simp only at h
  case not=>
   split at h
   . rename_i b hb;cases h;exact ASA hb hN k
   . cases h
  all_goals cases h
 case binOp b t x y t'=>
  split at h
  . rename_i kk i hx
    split at h
    . rename_i kk' j hy
      split at h
      . rename_i hk
        cases ADC hk
        cases b<;>simp only at h
        case lss=>cases h;exact AEw hx hy hN k
        case leq=>cases h;exact ANx hx hy hN k
        case gtr=>cases h;exact AR9 hx hy hN k
        case geq=>cases h;exact ANy hx hy hN k
        case eql=>cases h;exact ANz hx hy hN k
        case neq=>cases h;exact AN0 hx hy hN k
        all_goals cases h
      . cases h
    . cases h
  . cases h
 all_goals cases h
theorem AUN(hag:AgOk P tb.ag){V:Vw}(hV:VwOk w V){d i j:Nat}{ty:TypeId}{pos:String}(hN:blt d N=true)(h:pu2 tb V L i j op=some (v,as_,bs))(he:as_=bs)(k:Reg P N ops q rest ds ((d,v)::L) w A B X Z):
  Reg P N ops q (⟨some d,op,ty,pos,af,none⟩::rest) ds L w A B X Z:=by
 cases op<;>simp only[pu2]at h
 case load e x=>
  split at h
  . rename_i b o hp
    split at h
    . rename_i b' o' cs hn
      split at h
      . rename_i ha
        split at h
        . rename_i u hu
          cases h
          cases he
          rw[Y9]at hu
          exact J8 hp (hV.at hn j _ hu) (hag.at0 ha) hN k
        . cases h
      . rename_i n ha
        cases h
        cases he
        exact Y0 hp (hV.at hn) (hag.at1 ha).1 rfl (hag.at1 ha).2 hN k
      . cases h
    . cases h
  . cases h
 all_goals cases h
theorem AUO(hst:StOk P tb.st)(hag:AgOk P tb.ag){V:Vw}(hV:VwOk w V){d c:Nat}{ty:TypeId}{pos:String}(hN:blt d N=true)(h:puC tb V L op c=some (v,as_,bs)):
  as_.length=bs.length/\(as_=bs->Reg P N ops q rest ds ((d,v)::L) w A B X Z->Reg P N ops q (⟨some d,op,ty,pos,af,none⟩::rest) ds L w A B X Z):=by
 cases c with
 |zero=>
  simp only[puC]at h
  split at h
  . rename_i u hu
    cases h
    exact⟨rfl,fun _ k=>AUM hst hag hN hu k⟩
  . cases h
 |succ c=>
  simp only[puC]at h
  refine⟨?_,fun he k=>AUN hag hV hN h he k⟩
  cases op<;>simp only[pu2]at h
  case load e x=>
   split at h
   . split at h
     . split at h
       . split at h
         . cases h;rfl
         . cases h
       . cases h;rfl
       . cases h
     . cases h
   . cases h
  all_goals cases h
theorem APN{ty:TypeId}{pos:String}{g:Option (Nat×Bool)}{z:Nat}(hN:blt d N=true)(hz:puG ops L g=some z)(h0:z=0->Reg P N ops q (⟨some d,op,ty,pos,af,none⟩::rest) ds L w A B X Z)(h1:z≠0->Reg P N ops q rest ds ((d,undef)::L) w A B X Z):
  Reg P N ops q (⟨some d,op,ty,pos,af,g⟩::rest) ds L w A B X Z:=by
 cases g with
 |none=>simp only[puG]at hz;cases hz;exact h0 rfl
 |some jb=>
  obtain⟨j,b⟩:=jb
  simp only[puG]at hz
  split at hz
  . cases hz
  . rename_i t ht
    split at hz
    . rename_i c' hc
      cases c' <;> cases b<;>simp only at hz<;>cases hz
      . exact Reg.take ht hc (h0 rfl)
      . exact Reg.pass hN ht hc rfl (h1 (by decide))
      . exact Reg.pass hN ht hc rfl (h1 (by decide))
      . exact Reg.take ht hc (h0 rfl)
    . rename_i hc
      cases hz
      exact APJ hN ht hc (h1 (by decide))
    . cases hz
theorem AKS{tb:Tb}(hst:StOk P tb.st)(hag:AgOk P tb.ag){V:Vw}(hV:VwOk w V):∀(cs:List Nat) (l:List Oper) (L:A8) {l':List Oper} {L':A8} {as_ bs:List Nat},puN tb N ops V cs l L=some (l',L',as_,bs)->as_=bs->Reg P N ops q l' ds L' w A B X Z->Reg P N ops q l ds L w A B X Z
 |[],l,L,_,_,_,_,h,_,k=>by cases h;exact k
 |_::_,[],_,_,_,_,_,h,_,_=>by cases h
 |c::r,⟨d,op,ty,pos,af,g⟩::l,L,l',L',as_,bs,h,he,k=>by
  simp only[puN]at h;split at h
  . cases h
  . rename_i d;split at h
    . cases h
    . rename_i hN;split at h
      . rename_i hg;split at h
        . rename_i v as1 bs1 hv;split at h
          . rename_i l2 L2 as2 bs2 h2;cases h
            obtain⟨hlen,hk⟩:=AUO (P:=P) (q:=q) (ops:=ops) (rest:=l) (ds:=ds) (A:=A) (B:=B) (X:=X) (Z:=Z) (ty:=ty) (pos:=pos) (af:=af) hst hag hV hN hv;obtain⟨e1,e2⟩:=List.append_inj he hlen;exact APN hN hg (fun _=>hk e1 (AKS hst hag hV r l _ h2 e2 k)) fun hh=>absurd rfl hh
          . cases h
        . cases h
      . rename_i n hg;exact APN hN hg (fun hh=>by cases hh) fun _=>AKS hst hag hV r l _ h he k
      . cases h
theorem Reg.pu[ht:TbOk P tb]{V:Vw}(hV:VwOk w V)(cs:List Nat){l l':List Oper}{L':A8}(h:puN tb N ops V cs l L=some (l',L',as_,bs))(he:as_=bs)(k:Reg P N ops q l' ds L' w A B X Z):Reg P N ops q l ds L w A B X Z:=
 AKS ht.st ht.ag hV cs l L h he k
end
end
def zs:Nat->List Nat
 |0=>[]
 |n+1=>0::zs n
def puA(tb:Tb)(N:Nat)(ops:Array Oper)(l:List Oper)(L:A8):Option A8:=match puN tb N ops [] (l.map fun _=>0) l L with
 |some ([],L',[],[])=>some L'
 |_=>none
theorem AS0{tb:Tb}{N:Nat}{ops:Array Oper}{l:List Oper}{L L':A8}(h:puA tb N ops l L=some L'):puN tb N ops [] (l.map fun _=>0) l L=some ([],L',[],[]):=by
 unfold puA at h;split at h
 . rename_i L2 h2;cases h;exact h2
 . cases h
section
variable{P:Program}{N:Nat}{ops:Array Oper}{q:Md}{l:List Oper}{ds:List Deferred}{L:A8}{w:World}{A B:A5}{X:Nat->A5}{Z:List PanicEntry->A5}
section
variable{tb:Tb}{id:Nat}{L':A8}{c:Code}{α:Type}{Xp:Option α}{Yp:Option α}
theorem AWk(ht:TbOk P tb)(h:puA tb N l.toArray l L=some L')(k:A ds L' w):CW P N (.region id l.toArray false) ds L w A B X Z:=
 A7 (AKS ht.st ht.ag v0 _ l L (AS0 h) rfl (Reg.nil k))
theorem AWl(ht:TbOk P tb)(h:puA tb N l.toArray l L=some L')(k:CW P N c ds L' w A B X Z):CW P N (.seq (.region id l.toArray false) c) ds L w A B X Z:=
 A3 (AWk ht h k)
theorem cr(h:Reg P N l.toArray .seq l ds L w (fun ds' L' w'=>CW P N c ds' L' w' A B X Z) B X Z):CW P N (.seq (.region id l.toArray false) c) ds L w A B X Z:=A3 (A7 h)
theorem cc{r:α}{c:Operand}{x y:Code}{b:Bool}(h:cond b Xp Yp=some r)(hc:ev L c=some (.bool b))(ht:b=true->Xp=some r->CW P N x ds L w A B X Z)(hf:b=false->Yp=some r->CW P N y ds L w A B X Z):CW P N (.cond c x y) ds L w A B X Z:=
 T4 hc (fun e=>ht e (cdT e h)) fun e=>hf e (cdF e h)
theorem gs{r:α}{t:Nat}{x:Bool}(h:cond x Xp Yp=some r)(ht:A6 L t=some (.bool x))(hT:x=true->Xp=some r->Reg P N ops q l ds ((t,.bool true)::L) w A B X Z)(hF:x=false->Yp=some r->Reg P N ops q l ds ((t,.bool false)::L) w A B X Z):Reg P N ops q l ds L w A B X Z:=
 AH4 ht (fun e=>hT e (cdT e h)) fun e=>hF e (cdF e h)
end
end
theorem so{α:Type}{a b:α}(h:some a=some b):a=b:=AaO h
def AN8(L:A8):List Nat->Option (List Value)
 |[]=>some []
 |t::r=>match A6 L t with
  |some v=>match AN8 L r with
   |some vs=>some (v::vs)
   |none=>none
  |none=>none
theorem sb{L:A8}:∀{L0:A8},AN8 L (L0.map (·.1))=some (L0.map (·.2))->Sub L0 L
 |[],_=>Sub.nil _
 |(t,v)::r,h=>by
  simp only[List.map_cons,AN8]at h;split at h
  . rename_i u hu;split at h
    . rename_i us hus;simp only[Option.some.injEq,List.cons.injEq]at h;obtain⟨rfl,rfl⟩:=h;exact Sub.cons hu (sb hus)
    . cases h
  . cases h
section
variable{w0 w:World}{Mu M:List Nat}{σ:List Res}
abbrev Hp.J(_:Hp w0 Mu M σ w)(σ':List Res)(w':World)(p:Prop):Prop:=Hp w0 Mu M σ' w'/\Adv (mm σ M) (mm σ' M) w w'/\p
abbrev Hp.K(_:Hp w0 Mu M σ w)(σ':List Res)(w':World):Prop:=Hp w0 Mu M σ' w'/\Adv (mm σ M) (mm σ' M) w w'
theorem Hp.fz(h:Hp w0 Mu M σ w)(i:Nat){e:TypeId}{b:Nat}{cs:List Value}(hi:σ[i]?=some (rowR e b cs)):RdC (mm (σ.eraseIdx i) M) w b 0 cs/\Hp w0 Mu M (σ.eraseIdx i) w:=⟨h.freezeRow i hi,h.erase i⟩
theorem Hp.fs(h:Hp w0 Mu M σ w)(i:Nat){α:Type}{mu:List Nat}{E:Enc α}{e:TypeId}{v:Value}{xs:List α}(hi:σ[i]?=some (ownR mu E e v xs)):RdS E (mm (σ.eraseIdx i) M) w v xs/\Hp w0 Mu M (σ.eraseIdx i) w:=⟨h.freeze i hi,h.erase i⟩
end
end Go.Sx
namespace Go.Rx
open Go Go.Sx Go.RowKit
inductive Ty where
 |int (k:IntKind)
 |bool
 |sl (t:Ty)
 |st (n:Nat)
 |arr (k:IntKind) (n:Nat)
 |mp (m:Nat) (k v:Ty)
 |fno (i:Nat)
 deriving DecidableEq
class Sg where
 S:Nat->Type
section
variable[Sg]
def den:Ty->Type
 |.int _=>Int
 |.bool=>Bool
 |.sl t=>List (den t)
 |.st n=>Sg.S n
 |.arr _ _=>List Int
 |.mp _ k v=>A4 (den k) (den v)
 |.fno _=>Nat
def P6:List Ty->Type
 |[]=>Unit
 |[t]=>den t
 |t::u::l=>den t×P6 (u::l)
end
section
variable[Sg]
def Q5:List Ty->Ty->Type
 |[],r=>Option (den r)
 |t::l,r=>den t->Q5 l r
inductive SV where
 |int (k:IntKind) (x:Int)
 |bool (b:Bool)
 |dat (t:Ty) (x:den t)
 |str (n:Nat) (x:Sg.S n)
 |ary (k:IntKind) (n:Nat) (x:List Int)
 |agg (l:List SV)
 |own (i:Nat)
 |ptr (i o:Nat)
 |ep (i:Nat) (t:Ty) (x:Int) (z:Option (den t)) (o:Nat)
 |rp (s:SV) (o:Nat)
 |fv (a:List Ty) (r:Ty) (f:Q5 a r)
 |fn (g:Nat) (caps:List SV)
 |nilS
 |raw (v:Value)
 |it (ts:List Ty) (xs:List (P6 ts))
 |np (t:Ty) (x:Option (den t))
 |ap (s:SV) (n:Nat) (x:Int) (k:Nat)
 |undef
 |dead
 |tup (l:List SV)
end
def Ty.leaf:Ty->Bool
 |.st _=>false
 |_=>true
def AFo:List Ty->Bool
 |[]=>true
 |t::l=>t.leaf&&AFo l
class Sf[Sg]where
 ft:Nat->List Ty
 un:(n:Nat)->Sg.S n->P6 (ft n)
 mkS:(n:Nat)->P6 (ft n)->Sg.S n
 un_mk:∀n x,un n (mkS n x)=x
 eq:(n:Nat)->Sg.S n->Sg.S n->Bool
 dec:(n:Nat)->DecidableEq (Sg.S n)
 leaf:∀n,AFo (ft n)=true
 nm:Nat->Bool
 gv:Nat->Option SV:=fun _=>none
variable[Sg][Sf]
open Classical in
def AEU:(t:Ty)->DecidableEq (den t)
 |.int _=>inferInstanceAs (DecidableEq Int)
 |.bool=>inferInstanceAs (DecidableEq Bool)
 |.st n=>Sf.dec n
 |.arr _ _=>inferInstanceAs (DecidableEq (List Int))
 |.sl t=>fun _ _=>propDecidable _
 |.mp _ _ _=>fun _ _=>propDecidable _
 |.fno _=>inferInstanceAs (DecidableEq Nat)
def I2(t t':Ty)(x:den t):Option (den t'):=if h:t=t' then some (h▸x) else none
def AKT(n n':Nat)(x:Sg.S n):Option (Sg.S n'):=if h:n=n' then some (h▸x) else none
def F6:(t:Ty)->den t->SV
 |.int k,x=>.int k x
 |.bool,x=>.bool x
 |.sl t,x=>.dat (.sl t) x
 |.st n,x=>.str n x
 |.arr k n,x=>.ary k n x
 |.mp m k v,x=>.dat (.mp m k v) x
 |.fno i,x=>.dat (.fno i) x
def ofL:(l:List Ty)->P6 l->List SV
 |[],_=>[]
 |[t],x=>[F6 t x]
 |t::u::l,x=>F6 t x.1::ofL (u::l) x.2
def AUP(n:Nat)(x:Sg.S n):List SV:=ofL (Sf.ft n) (Sf.un n x)
inductive Oc where
 |sl (e:Nat) (t:Ty)
 |mp (m:Nat) (k v:Ty)
 deriving DecidableEq
def Oc.ty:Oc->Ty
 |.sl _ t=>.sl t
 |.mp m k v=>.mp m k v
def castO(c c':Oc)(x:den c.ty):Option (den c'.ty):=if h:c=c' then some (h▸x) else none
inductive AR where
 |own (p:Bool) (c:Oc) (x:den c.ty)
 |row (e:Nat) (l:List SV)
def A1{α:Type}:List (Nat×α)->Nat->Option α
 |[],_=>none
 |(k,v)::r,t=>bif beq k t then some v else A1 r t
def AAs(R:Nat->Option AR):(t:Ty)->SV->Option (den t)
 |.int k,s=>match s with
  |.int k' x=>match kEq k' k with
   |true=>some x
   |false=>none
  |_=>none
 |.bool,s=>match s with
  |.bool b=>some b
  |_=>none
 |.sl t,s=>match s with
  |.dat t' x=>I2 t' (.sl t) x
  |.nilS=>some []
  |.own i=>match R i with
   |some (.own _ c xs)=>I2 c.ty (.sl t) xs
   |_=>none
  |_=>none
 |.st _,_=>none
 |.arr k n,s=>match s with
  |.ary k' n' x=>match kEq k' k with
   |true=>match beq n' n with
    |true=>some x
    |false=>none
   |false=>none
  |_=>none
 |.mp m k v,s=>match s with
  |.dat t' x=>I2 t' (.mp m k v) x
  |.own i=>match R i with
   |some (.own _ c xs)=>I2 c.ty (.mp m k v) xs
   |_=>none
  |_=>none
 |.fno i,s=>match s with
  |.dat t' x=>I2 t' (.fno i) x
  |.fn g l=>match l with
   |[]=>some g
   |_=>none
  |_=>none
def toL(R:Nat->Option AR):(l:List Ty)->List SV->Option (P6 l)
 |[],_=>none
 |[t],ss=>match ss with
  |[s]=>AAs R t s
  |_=>none
 |t::u::l,ss=>match ss with
  |s::r=>match AAs R t s with
   |some x=>match toL R (u::l) r with
    |some y=>some (x,y)
    |none=>none
   |none=>none
  |[]=>none
def C1(R:Nat->Option AR):(t:Ty)->SV->Option (den t)
 |.st n,s=>match s with
  |.str n' x=>AKT n' n x
  |.agg l=>match toL R (Sf.ft n) l with
   |some y=>some (Sf.mkS n y)
   |none=>none
  |_=>none
 |t,s=>AAs R t s
inductive Rp where
 |dead
 |dat (t:Ty) (x:den t)
 |rp (l:List SV)
mutual
def subS(i:Nat)(p:Rp):SV->SV
 |.own j=>match beq i j with
  |true=>match p with
   |.dat t x=>.dat t x
   |_=>.dead
  |false=>.own j
 |.ptr j o=>match beq i j with
  |true=>match p with
   |.rp l=>.rp (.agg l) o
   |_=>.dead
  |false=>.ptr j o
 |.ep j t x z o=>match beq i j with
  |true=>.dead
  |false=>.ep j t x z o
 |.agg l=>.agg (subL i p l)
 |.tup l=>.tup (subL i p l)
 |.rp s o=>.rp (subS i p s) o
 |.ap s n x k=>.ap (subS i p s) n x k
 |.fn g l=>.fn g (subL i p l)
 |.int k x=>.int k x
 |.bool b=>.bool b
 |.dat t x=>.dat t x
 |.str n x=>.str n x
 |.ary k n x=>.ary k n x
 |.fv a r f=>.fv a r f
 |.nilS=>.nilS
 |.raw v=>.raw v
 |.it ts xs=>.it ts xs
 |.np t x=>.np t x
 |.undef=>.undef
 |.dead=>.dead
def subL(i:Nat)(p:Rp):List SV->List SV
 |[]=>[]
 |s::l=>subS i p s::subL i p l
end
mutual
def oldS(i:Nat):SV->SV
 |.ep j t x z o=>match beq i j with
  |true=>.ep j t x none o
  |false=>.ep j t x z o
 |.agg l=>.agg (oldL i l)
 |.tup l=>.tup (oldL i l)
 |.rp s o=>.rp (oldS i s) o
 |.ap s n x k=>.ap (oldS i s) n x k
 |.fn g l=>.fn g (oldL i l)
 |.int k x=>.int k x
 |.bool b=>.bool b
 |.dat t x=>.dat t x
 |.str n x=>.str n x
 |.ary k n x=>.ary k n x
 |.own j=>.own j
 |.ptr j o=>.ptr j o
 |.fv a r f=>.fv a r f
 |.nilS=>.nilS
 |.raw v=>.raw v
 |.it ts xs=>.it ts xs
 |.np t x=>.np t x
 |.undef=>.undef
 |.dead=>.dead
def oldL(i:Nat):List SV->List SV
 |[]=>[]
 |s::l=>oldS i s::oldL i l
end
def AFp(i:Nat):List (Nat×SV)->List (Nat×SV)
 |[]=>[]
 |(t,s)::r=>(t,oldS i s)::AFp i r
def ABu(i:Nat)(p:Rp):List (Nat×SV)->List (Nat×SV)
 |[]=>[]
 |(t,s)::r=>(t,subS i p s)::ABu i p r
def AR.sub(i:Nat)(p:Rp):AR->AR
 |.row e l=>.row e (subL i p l)
 |.own p c xs=>.own p c xs
def W0(i:Nat)(p:Rp):List (Nat×AR)->List (Nat×AR)
 |[]=>[]
 |(t,a)::r=>(t,a.sub i p)::W0 i p r
structure AS where
 env:List (Nat×SV)
 res:List (Nat×AR)
 kl:List Nat
 ch:List (Nat×Nat)
inductive Ac where
 |put (s:SV)
 |new (i:Nat) (r:AR)
 |sto (i o:Nat) (ns:List SV)
 |cnt (i:Nat) (c:Oc) (x:den c.ty)
 |hnd (i:Nat) (r:AR)
 |del (i:Nat) (p:Rp)
def AR.old(i:Nat):AR->AR
 |.row e l=>.row e (oldL i l)
 |.own p c xs=>.own p c xs
def AED(i:Nat)(a:AR):List (Nat×AR)->List (Nat×AR)
 |[]=>[]
 |(t,b)::r=>bif beq t i then(t,a)::AED i a r else(t,b)::AED i a r
def Z8(i:Nat):List (Nat×AR)->List (Nat×AR)
 |[]=>[]
 |(t,b)::r=>bif beq t i then Z8 i r else(t,b)::Z8 i r
def AK4(i:Nat):List Nat->List (Nat×Nat)->List (Nat×Nat)
 |[],l=>l
 |c::r,l=>(i,c)::AK4 i r l
inductive Ck where
 |d (t:Ty)
 |own (c:Oc)
 |undef
 |it (ts:List Ty)
 |np (t:Ty)
 deriving DecidableEq
def Ck.den:Ck->Type
 |.d t=>Rx.den t
 |.own c=>Rx.den c.ty
 |.undef=>Unit
 |.it ts=>List (P6 ts)
 |.np t=>Option (Rx.den t)
def H9:List Ck->Type
 |[]=>Unit
 |[c]=>c.den
 |c::d::l=>c.den×H9 (d::l)
inductive Pt where
 |d (t:Ty)
 |pt (t:Ty)
 |fn (a:List Ty) (r:Ty)
 |pp (t:Ty)
 |cl (g:Nat) (cs:List (Bool×Ty))
 |nl
 deriving DecidableEq
def AFq:Bool->Ty->Type
 |false,t=>Rx.den t
 |true,t=>Option (Rx.den t)
def AA5:List (Bool×Ty)->Type
 |[]=>Unit
 |(b,t)::l=>AFq b t×AA5 l
def Pt.den:Pt->Type
 |.d t=>Rx.den t
 |.pt t=>Rx.den t
 |.fn a r=>Q5 a r
 |.pp t=>Option (Rx.den t)
 |.cl _ cs=>AA5 cs
 |.nl=>Unit
def E9:List Pt->Type
 |[]=>Unit
 |p::l=>p.den×E9 l
structure Ctr where
 ps:List Pt
 rs:List Ck
 F:E9 ps->Option (H9 rs)
structure CtrP where
 ps:List Pt
 t:Ty
 T:TypeId
 F:E9 ps->Option (den t)
structure CtrA where
 ps:List Pt
 rs:List Ck
 F:E9 ps->Option (H9 rs)
structure CtrM where
 ps:List Pt
 i:Nat
 c:Oc
 rs:List Ck
 F:E9 ps->den c.ty->Option (H9 rs×den c.ty)
 self:Bool:=false
 ag:Option CtrA:=none
structure Fd where
 a:List Ty
 r:Ty
 D:Nat->Q5 a r
structure Gx where
 tb:Tb
 sl:List (Nat×Nat×Ty×Nat)
 sz:List (Nat×Nat)
 ty:List (Nat×Ty)
 fs:List (Nat×Ctr)
 bd:List (Nat×List (Nat×Nat))
 eq:List (Nat×Nat)
 mp:List (Nat×Nat×Nat×Ty×Ty)
 ar:List (Nat×Nat×Nat)
 pz:List (Nat×Nat)
 pf:List (Nat×CtrP)
 fm:List (Nat×CtrM)
 fd:List (Nat×Fd)
def AN9:Nat->Value
 |0=>.pointer none
 |_=>.nilFunc
variable(G:Gx)
def AK5:IntKind->Int->Bool
 |.i64,x=>decide (-9223372036854775808<=x)&&decide (x<=9223372036854775807)
 |.u8,x=>decide (0<=x)&&decide (x<=255)
 |.u16,x=>decide (0<=x)&&decide (x<=65535)
 |.u32,x=>decide (0<=x)&&decide (x<=4294967295)
 |_,_=>false
def AK6:Value->Option SV
 |.int k x=>bif AK5 k x then some (.int k x) else none
 |.bool b=>some (.bool b)
 |.slice a n c=>match a,n,c with
  |none,0,0=>some .nilS
  |_,_,_=>none
 |.map a=>match a with
  |none=>some (.raw (.map none))
  |some _=>none
 |.pointer a=>match a with
  |none=>some (.raw (.pointer none))
  |some _=>none
 |_=>none
def B5(env:List (Nat×SV)):Operand->Option SV
 |.tmp t=>A1 env t
 |.const v=>AK6 v
 |.func g=>some (.fn g [])
 |.global g=>Sf.gv g
def evL(E:Operand->Option SV):List Operand->Option (List SV)
 |[]=>some []
 |x::l=>match E x with
  |some s=>match evL E l with
   |some r=>some (s::r)
   |none=>none
  |none=>none
def wd:SV->Nat
 |.ary _ n _=>n
 |.str _ _=>0
 |.agg _=>0
 |.tup _=>0
 |.undef=>0
 |_=>1
def cellsOf:SV->List SV
 |.str n x=>AUP n x
 |.agg l=>l
 |s=>[s]
def Q6:List SV->Nat->Option SV
 |[],_=>none
 |s::l,o=>match o with
  |0=>some s
  |o+1=>match wd s with
   |0=>none
   |n+1=>bif Nat.ble n o then Q6 l (o-n) else none
def Q7:List SV->Option Nat
 |[]=>some 0
 |s::l=>match wd s with
  |0=>none
  |n+1=>match Q7 l with
   |some m=>some (n+1+m)
   |none=>none
def AGW:List SV->Nat->Option (List SV)
 |l,0=>some l
 |[],_+1=>none
 |s::l,o+1=>match wd s with
  |0=>none
  |n+1=>bif Nat.ble n o then AGW l (o-n) else none
def AEz:List SV->Nat->Option (List SV)
 |_,0=>some []
 |[],_+1=>none
 |s::l,o+1=>match wd s with
  |0=>none
  |n+1=>match Nat.ble n o with
   |true=>match AEz l (o-n) with
    |some r=>some (s::r)
    |none=>none
   |false=>none
def overL:List SV->List SV->Option (List SV)
 |l,[]=>some l
 |[],_::_=>none
 |s::l,n::r=>match beq (wd s) (wd n) with
  |true=>match wd n with
   |0=>none
   |_+1=>match overL l r with
    |some x=>some (n::x)
    |none=>none
  |false=>none
def setW:List SV->Nat->List SV->Option (List SV)
 |l,0,ns=>overL l ns
 |[],_+1,_=>none
 |s::l,o+1,ns=>match wd s with
  |0=>none
  |n+1=>match Nat.ble n o with
   |true=>match setW l (o-n) ns with
    |some r=>some (s::r)
    |none=>none
   |false=>none
def entry:List SV->Nat->Nat
 |_,0=>0
 |[],_+1=>0
 |s::l,o+1=>match wd s with
  |0=>0
  |n+1=>bif Nat.ble n o then entry l (o-n)+1 else 0
def AAt(o:Nat)(ns:List SV):AR->AR
 |.row e l=>match setW l o ns with
  |some l'=>.row e l'
  |none=>.row e l
 |a=>a
def AQm(o:Nat)(ns:List SV):Option AR->List Nat
 |some (.row _ l)=>List.range' (entry l o+1) ns.length
 |_=>[]
def Z9(c:Oc)(x:den c.ty):AR->AR
 |.own p c' y=>match castO c c' x with
  |some z=>.own p c' z
  |none=>.own p c' y
 |a=>a
def AE0(i:Nat)(g:AR->AR):List (Nat×AR)->List (Nat×AR)
 |[]=>[]
 |(t,b)::r=>(t,bif beq t i then g b else b.old i)::AE0 i g r
def AS.upd(σ:AS)(i:Nat)(g:AR->AR)(c:List Nat):AS:={ σ with env:=AFp i σ.env,res:=AE0 i g σ.res,ch:=AK4 i c σ.ch }
def Ac.app(d:Option Nat)(σ:AS):Ac->AS
 |.put s=>match d with
  |some d=>{ σ with env:=(d,s)::σ.env }
  |none=>σ
 |.new i r=>{ σ with env:=ABu i .dead σ.env,res:=(i,r)::Z8 i (W0 i .dead σ.res),kl:=i::σ.kl }
 |.sto i o ns=>σ.upd i (AAt o ns) (AQm o ns (A1 σ.res i))
 |.cnt i c x=>σ.upd i (Z9 c x) [0]
 |.hnd i r=>{ σ with env:=ABu i .dead σ.env,res:=AED i r (W0 i .dead σ.res),kl:=i::σ.kl }
 |.del i p=>{ σ with env:=ABu i p σ.env,res:=Z8 i (W0 i p σ.res),kl:=i::σ.kl }
def apps(d:Option Nat):List Ac->AS->AS
 |[],σ=>σ
 |a::l,σ=>apps d l (a.app d σ)
def one:SV->Bool
 |.ary _ _ _=>false
 |.str _ _=>false
 |.agg _=>false
 |.tup _=>false
 |.undef=>false
 |_=>true
def AEE:SV->Bool
 |.ary _ _ _=>true
 |.str _ _=>true
 |.agg _=>true
 |_=>false
def AUQ:SV->Bool
 |.tup _=>false
 |.undef=>false
 |.dead=>false
 |.agg _=>false
 |.str _ _=>false
 |_=>true
def AGX:List SV->Bool
 |[]=>true
 |s::l=>AUQ s&&AGX l
mutual
def B3:SV->List Nat
 |.own i=>[i]
 |.ptr i _=>[i]
 |.ep i _ _ _ _=>[i]
 |.agg l=>ownsLL l
 |.tup l=>ownsLL l
 |.fn _ l=>ownsLL l
 |.rp s _=>B3 s
 |.ap s _ _ _=>B3 s
 |_=>[]
def ownsLL:List SV->List Nat
 |[]=>[]
 |s::l=>B3 s++ownsLL l
end
def ABc:Rp->List Nat
 |.rp l=>ownsLL l
 |_=>[]
def AGY:AR->List Nat
 |.row _ l=>ownsLL l
 |_=>[]
def ADD(R:Nat->Option AR)(i:Nat):Option (List Ac):=match R i with
 |some (.own false c xs)=>some [.del i (.dat c.ty xs)]
 |some (.own true _ _)=>none
 |some (.row _ l)=>match ownsLL l with
  |[]=>some [.del i (.rp l)]
  |_=>none
 |none=>none
def has(l:List Nat)(n:Nat):Bool:=match l with
 |[]=>false
 |x::r=>bif beq x n then true else has r n
def frz(R:Nat->Option AR):List Nat->Option (List Ac)
 |[]=>some []
 |i::l=>bif has l i then frz R l else match ADD R i with
  |some a=>match frz R l with
   |some r=>some (a++r)
   |none=>none
  |none=>none
def toP(R:Nat->Option AR)(t:Ty)(l:List SV):Option (den t):=match t with
 |.st n=>C1 R (.st n) (.agg l)
 |t=>match l with
  |[s]=>C1 R t s
  |_=>none
def AAR(R:Nat->Option AR)(t:Ty):SV->Option (den t)
 |.rp v o=>match o with
  |0=>toP R t (cellsOf v)
  |_=>none
 |.ptr i o=>match o with
  |0=>match R i with
   |some (.row _ c)=>toP R t c
   |_=>none
  |_=>none
 |.np t' x=>match x with
  |some y=>I2 t' t y
  |none=>none
 |_=>none
def AHM(R:Nat->Option AR)(t:Ty):SV->Option (Option (den t))
 |.np t' x=>if h:t'=t then some (h▸x) else none
 |.rp v o=>match AAR R t (.rp v o) with
  |some x=>some (some x)
  |none=>none
 |.ptr i o=>match AAR R t (.ptr i o) with
  |some x=>some (some x)
  |none=>none
 |_=>none
def ACP(R:Nat->Option AR):SV->Option SV
 |.rp v o=>match o,cellsOf v with
  |0,[s]=>some s
  |_,_=>none
 |.ptr i o=>match o,R i with
  |0,some (.row _ [s])=>some s
  |_,_=>none
 |_=>none
def toB(R:Nat->Option AR):(b:Bool)->(t:Ty)->SV->Option (AFq b t)
 |false,t,s=>AAR R t s
 |true,t,s=>match ACP R s with
  |some s'=>AHM R t s'
  |none=>none
def ACQ(R:Nat->Option AR):(cs:List (Bool×Ty))->List SV->Option (AA5 cs)
 |[],ss=>match ss with
  |[]=>some ()
  |_=>none
 |(b,t)::cs,ss=>match ss with
  |s::l=>match toB R b t s with
   |some x=>match ACQ R cs l with
    |some r=>some (x,r)
    |none=>none
   |none=>none
  |[]=>none
def AHN(R:Nat->Option AR)(g:Nat)(cs:List (Bool×Ty))(s:SV):Option (AA5 cs):=match ACP R s with
 |some (.fn g' l)=>match beq g' g with
  |true=>ACQ R cs l
  |false=>none
 |_=>none
def AE1(R:Nat->Option AR):(p:Pt)->SV->Option p.den
 |.pt t,s=>AAR R t s
 |.pp t,s=>toB R true t s
 |.cl g cs,s=>AHN R g cs s
 |.d _,_=>none
 |.fn _ _,_=>none
 |.nl,_=>none
def ACR(R:Nat->Option AR):(ps:List Pt)->List SV->Option (E9 ps)
 |[],ss=>match ss with
  |[]=>some ()
  |_=>none
 |p::ps,ss=>match ss with
  |s::l=>match AE1 R p s with
   |some x=>match ACR R ps l with
    |some r=>some (x,r)
    |none=>none
   |none=>none
  |[]=>none
def AOA(r:Ty):(a:List Ty)->(ps:List Pt)->E9 ps->(E9 (a.map Pt.d++ps)->Option (den r))->Q5 a r
 |[],_,y,f=>f y
 |_::a,ps,y,f=>fun x=>AOA r a ps y (fun z=>f (x,z))
def APP(ps cps:List Pt)(rs:List Ck)(F:E9 ps->Option (H9 rs))(y:E9 cps)(a:List Ty)(r:Ty):Option (Q5 a r):=
 if h:ps=a.map Pt.d++cps/\rs=[.d r] then some (AOA r a cps y (fun z=>(show Option (H9 [.d r]) from h.2▸F (h.1▸z)))) else none
def AI6(R:Nat->Option AR)(ps cps:List Pt)(rs:List Ck)(F:E9 ps->Option (H9 rs))(caps:List SV)(a:List Ty)(r:Ty):Option (Q5 a r):=match ACR R cps caps with
 |some y=>APP ps cps rs F y a r
 |none=>none
def ADp(R:Nat->Option AR)(g:Nat)(caps:List SV)(a:List Ty)(r:Ty):Option (Q5 a r):=match A1 G.fs g with
 |some c=>AI6 R c.ps (c.ps.drop a.length) c.rs c.F caps a r
 |none=>none
def AKU(a a':List Ty)(r r':Ty)(f:Q5 a r):Option (Q5 a' r'):=if h:a=a'/\r=r' then some (h.1▸h.2▸f) else none
def AE2(R:Nat->Option AR):(p:Pt)->SV->Option p.den
 |.d t,s=>C1 R t s
 |.pt t,s=>AAR R t s
 |.fn a r,s=>match s with
  |.fv a' r' f=>AKU a' a r' r f
  |.fn g caps=>ADp G R g caps a r
  |_=>none
 |.pp t,s=>toB R true t s
 |.cl g cs,s=>AHN R g cs s
 |.nl,s=>match s with
  |.nilS=>some ()
  |_=>none
def M5(R:Nat->Option AR):(ps:List Pt)->List SV->Option (E9 ps)
 |[],ss=>match ss with
  |[]=>some ()
  |_=>none
 |p::ps,ss=>match ss with
  |s::l=>match AE2 G R p s with
   |some x=>match M5 R ps l with
    |some r=>some (x,r)
    |none=>none
   |none=>none
  |[]=>none
def AK7(id:Nat):(c:Ck)->c.den->SV×List Ac
 |.d t,x=>(F6 t x,[])
 |.own c,x=>(.own id,[.new id (.own false c x)])
 |.undef,_=>(.undef,[])
 |.it ts,x=>(.it ts x,[])
 |.np t,x=>(.np t x,[])
def P7(id:Nat):(rs:List Ck)->H9 rs->List SV×List Ac
 |[],_=>([],[])
 |[c],x=>match AK7 id c x with
  |(s,a)=>([s],a)
 |c::d::l,x=>match AK7 id c x.1 with
  |(s,a)=>match P7 (id+100000) (d::l) x.2 with
   |(ss,as_)=>(s::ss,a++as_)
def AFs:List SV->SV
 |[s]=>s
 |l=>.tup l
def AAy:List Ck->Bool
 |[]=>true
 |.d (.int _)::l=>AAy l
 |.d .bool::l=>AAy l
 |_=>false
def cmp(b:BinOp)(i j:Int):Option Bool:=match b with
 |.lss=>some (decide (i<j))
 |.leq=>some (decide (i<=j))
 |.gtr=>some (decide (j<i))
 |.geq=>some (decide (j<=i))
 |.eql=>some (decide (i=j))
 |.neq=>some (!decide (i=j))
 |_=>none
def AA6(u:Ty)(R:Nat->Option AR):List SV->Option (List (den u))
 |[]=>some []
 |s::l=>match C1 R u s with
  |some x=>match AA6 u R l with
   |some r=>some (x::r)
   |none=>none
  |none=>none
def fvN:Option SV->Option SV
 |some (.dat t n)=>match t,n with
  |.fno i,n=>match A1 G.fd i with
   |some q=>some (.fv q.a q.r (q.D n))
   |none=>none
  |_,_=>none
 |o=>o
def AIA(id:Nat)(R:Nat->Option AR){Z:Type}(K:List Ac->Option Z)(g:Nat)(ss:List SV):Option Z:=match A1 G.fs g with
 |some c=>match M5 G R c.ps ss with
  |some a=>match (bif AAy c.rs then some [] else frz R (ownsLL ss)) with
   |some fz=>(c.F a).bind fun r=>match P7 id c.rs r with
    |(ss',as_)=>K (fz++as_++[.put (AFs ss')])
   |none=>none
  |none=>none
 |none=>none
def AAH(r:Ty):(a:List Ty)->Q5 a r->(R:Nat->Option AR)->List SV->Option (Option (den r))
 |[],f,_,ss=>match ss with
  |[]=>some f
  |_=>none
 |t::a,f,R,ss=>match ss with
  |s::l=>match C1 R t s with
   |some x=>AAH r a (f x) R l
   |none=>none
  |[]=>none
end Go.Rx
namespace Go.Sx
open Go Go.RowKit Go.ChangeMaps
variable[Trk]
def J3{β:Type}(l:List (MapEntry×β))(seen:Array Nat):List β:=(l.filter fun p=>!seen.contains p.1.born).map (·.2)
section
variable{seen:Array Nat}{β:Type}{xs:List β}
theorem APQ{n m:Nat}:(seen.push m).contains n=(seen.contains n||(n==m)):=by
 rw[Bool.eq_iff_iff];simp
theorem AK8{β:Type}{p:MapEntry×β}{seen:Array Nat}:∀{l:List (MapEntry×β)},(l.map (·.1.born)).Nodup->p∈l->seen.contains p.1.born=false->(J3 l seen).Perm (p.2::J3 l (seen.push p.1.born))
 |[],_,h,_=>by cases h
 |q::l,hn,h,hs=>by
  rw[Aaj,List.nodup_cons]at hn;have hc:∀n:Nat,(seen.push p.1.born).contains n=(seen.contains n||(n==p.1.born)):=fun n=>APQ;by_cases e:q=p
  . subst e;have hrest:J3 l (seen.push q.1.born)=J3 l seen:=by
     unfold J3;congr 1;refine AcU fun x hx=>?_;have:x.1.born≠q.1.born:=fun e=>hn.1 (e▸AbC (f:=fun p:MapEntry×β=>p.1.born) hx);rw[hc,beq_false_of_ne this,Bool.or_false]
    have h1:J3 (q::l) seen=q.2::J3 l seen:=by simp only[J3,List.filter_cons,hs,Bool.not_false,if_true,List.map_cons]
    have h2:J3 (q::l) (seen.push q.1.born)=J3 l (seen.push q.1.born):=by
     simp only[J3,List.filter_cons,hc,beq_self_eq_true,Bool.or_true,Bool.not_true,Bool.false_eq_true,if_false]
    rw[h1,h2,hrest]
  . have hp:p∈l:=(mem_cons.1 h).resolve_left fun e'=>e e'.symm;have ih:=AK8 hn.2 hp hs;have hne:q.1.born≠p.1.born:=fun e=>hn.1 (e▸AbC (f:=fun p:MapEntry×β=>p.1.born) hp);by_cases hq:seen.contains q.1.born=true
    . have h1:J3 (q::l) seen=J3 l seen:=by simp only[J3,List.filter_cons,hq,Bool.not_true,Bool.false_eq_true,if_false]
      have h2:J3 (q::l) (seen.push p.1.born)=J3 l (seen.push p.1.born):=by simp only[J3,List.filter_cons,hc,hq,Bool.true_or,Bool.not_true,Bool.false_eq_true,if_false]
      rw[h1,h2];exact ih
    . have hq:seen.contains q.1.born=false:=by simpa using hq
      have hb:(q.1.born==p.1.born)=false:=beq_false_of_ne hne;have h1:J3 (q::l) seen=q.2::J3 l seen:=by simp only[J3,List.filter_cons,hq,Bool.not_false,if_true,List.map_cons]
      have h2:J3 (q::l) (seen.push p.1.born)=q.2::J3 l (seen.push p.1.born):=by simp only[J3,List.filter_cons,hc,hq,hb,Bool.or_false,Bool.not_false,if_true,List.map_cons]
      rw[h1,h2];exact(ih.cons q.2).trans (List.Perm.swap ..)
theorem AK9{β:Type}:∀{es:List MapEntry} {xs:List β},es.length=xs.length->(es.zip xs).map (·.1.born)=es.map (·.born)
 |[],[],_=>rfl
 |_::_,_::_,h=>by simp[AK9 (Nat.succ.inj h)]
 |[],_::_,h=>by simp at h
 |_::_,[],h=>by simp at h
theorem AM0{β:Type}:∀{es:List MapEntry} {xs:List β},es.length=xs.length->(es.zip xs).map (·.2)=xs
 |[],[],_=>rfl
 |_::_,_::_,h=>by simp[AM0 (Nat.succ.inj h)]
 |[],_::_,h=>by simp at h
 |_::_,[],h=>by simp at h
theorem AS1{es:List MapEntry}(h:es.length=xs.length):J3 (es.zip xs) #[]=xs:=by
 unfold J3;rw[List.filter_eq_self.2 (fun p _=>by simp)];exact AM0 h
theorem AS2{es:Array MapEntry}(h:(leftOf es seen).size=0):J3 (es.toList.zip xs) seen=[]:=by
 unfold J3;rw[List.map_eq_nil_iff,List.filter_eq_nil_iff];intro p hp;have h1:p.1∈es.toList:=(List.of_mem_zip (a:=p.1) (b:=p.2) hp).1;have h2:leftOf es seen=#[]:=Array.eq_empty_of_size_eq_zero h;unfold leftOf at h2;rw[Array.filter_eq_empty_iff]at h2;have:=h2 p.1 (by simpa using h1);simpa using this
end
section
variable{P:Program}{kt:TypeId}{κ α:Type}{K:Ky P kt κ}{E:Enc α}{ag:Bool}
def RdX(K:Ky P kt κ)(E:Enc α)(ag:Bool)(M:List Nat)(w:World)(b:Nat)(es:Array MapEntry)(c:Nat)(xs:List (κ×α)):Prop:=
 b∉M/\w.heap[b]?=some (.map es c)/\Stp es c/\EntK K E ag M w es.toList xs
theorem RdX.adv{M M':List Nat}{w w':World}{b c:Nat}{es:Array MapEntry}{xs:List (κ×α)}(h:RdX K E ag M w b es c xs)(ha:Adv M M' w w'):RdX K E ag M' w' b es c xs:=by
 obtain⟨hb,h1,h2,h3⟩:=h;have hlt:=G0 h1;exact⟨fun hb'=>(ha.new b hb').elim hb (fun h=>absurd hlt (by omega)),(ha.kp.block b hlt hb).trans h1,h2,h3.adv ha⟩
theorem EntK.zip{M:List Nat}{w:World}:∀{es:List MapEntry} {xs:List (κ×α)},EntK K E ag M w es xs->∀{e:MapEntry} {x:κ×α},(e,x)∈es.zip xs->e.key=K.val x.1/\K.ok x.1/\Vl E ag M w e.val x.2
 |[],_,_,_,_,h=>by simp at h
 |_::_,[],h,_,_,_=>h.elim
 |e::es,x::xs,⟨h1,h2,h3⟩,e',x',h=>by
  rw[AcN,Aap]at h;rcases h with h|h
  . cases h;exact⟨h1.1,h1.2,h2⟩
  . exact EntK.zip h3 h
theorem AFt{β:Type}:∀{es:List MapEntry} {xs:List β},es.length=xs.length->∀e∈es,∃x,(e,x)∈es.zip xs
 |[],_,_,_,h=>by cases h
 |e::es,x::xs,hl,e',h=>by
  rcases mem_cons.1 h with rfl|h
  . exact⟨x,by simp⟩
  . obtain⟨y,hy⟩:=AFt (Nat.succ.inj hl) e' h;exact⟨y,by simp[hy]⟩
 |_::_,[],h,_,_=>by simp at h
def N7(r b c:Nat)(es:Array MapEntry)(xs:List (κ×α))(o:Option (κ×α))(l:List (κ×α)):Res where
 fp:=[r]
 mu:=[]
 holds:=fun _ w=>∃seen,w.heap[r]?=some (.mapIter (some b) c seen c)/\l.Perm (J3 (es.toList.zip xs) seen)/\∀y,o=some y->∃(s0:Array Nat) (e:MapEntry),seen=s0.push e.born/\(e,y)∈es.toList.zip xs
 adv:=fun _ hb h=>by
  obtain⟨seen,h1,h2⟩:=h;exact⟨seen,(hb r (by simp)).trans h1,h2⟩
 lt:=fun h x hx=>by
  obtain⟨seen,h1,h2⟩:=h;have:x=r:=by simpa using hx
  subst this;exact G0 h1
variable{N:Nat}{ops:Array Oper}{q:Md}{rest:List Oper}{ds:List Deferred}{L:A8}{w w0:World}{A B:A5}{X:Nat->A5}{Z:List PanicEntry->A5}{d:Nat}{ty:TypeId}{pos:String}{af:Array Edge}{Mu M:List Nat}{σ:List Res}
section
variable{es:Array MapEntry}{o:Option (κ×α)}{x:Operand}
theorem Hp.weak[Fx]{r r':Res}(h:Hp w0 Mu M σ w)(i:Nat)(hi:σ[i]?=some r)(hf:r'.fp=r.fp)(hm:r'.mu=r.mu)(hh:∀M',(∀b∈M',b∈r'.fp\/b∈mm σ M)->r'.holds M' w):Hp w0 Mu M (σ.set i r') w:=
 h.upd i hi (Kp.refl _ _) (fun b hb=>.inl (hf▸hb)) hm hh
theorem AQn{r r':Res}(i:Nat)(hi:σ[i]?=some r)(hf:r'.fp=r.fp):Adv (mm σ M) (mm (σ.set i r') M) w w:=
 Adv.drop fun b hb=>(AKs hb).elim (fun h=>mem_mm.2 (.inl ⟨r,AaP hi,hf▸h⟩)) id
theorem Hp.itOff[Fx]{r b c:Nat}{xs l:List (κ×α)}(h:Hp w0 Mu M σ w)(i:Nat)(hi:σ[i]?=some (N7 r b c es xs o l)):Hp w0 Mu M (σ.set i (N7 r b c es xs none l)) w:=
 h.weak i hi rfl rfl fun _ _=>by
  obtain⟨seen,h1,h2,_⟩:=h.get i hi;exact⟨seen,h1,h2,fun _ h=>by cases h⟩
theorem APR{r b c:Nat}{xs l:List (κ×α)}(i:Nat)(hi:σ[i]?=some (N7 r b c es xs o l)):Adv (mm σ M) (mm (σ.set i (N7 r b c es xs none l)) M) w w:=AQn i hi rfl
theorem AQo[Fx]{f:A4 κ α}{mv:Value}{t kt' e:TypeId}(hI:Hp w0 Mu M σ w)(hm:RdF K E ag (mm σ M) w mv f)(hx:ev L x=some mv)(ht:P.underlying t=some (.map kt' e))(hN:blt d N=true)(h:∀r b c es xs w',RdX K E ag (mm σ M) w b es c xs->Lists f xs->Hp w0 Mu M (N7 r b c es xs none xs::σ) w'->Adv (mm σ M) (mm (N7 r b c es xs none xs::σ) M) w w'->Reg P N ops .seq rest ds ((d,.pointer (some ⟨r,0,none⟩))::L) w' A B X Z):
  Reg P N ops .seq (⟨some d,.range t x,ty,pos,af,none⟩::rest) ds L w A B X Z:=by
 obtain⟨b,rfl,hb,es,c,xs,h1,h2,h3,h4⟩:=hm
 have hx':Ext w (w.alloc (.mapIter (some b) c #[] c)):=Kp.alloc _ _ _
 have hn:∀y∈(N7 w.heap.size b c es xs none xs).fp,w.heap.size<=y/\y<(w.alloc (.mapIter (some b) c #[] c)).heap.size:=fun y hy=>by
  have:y=w.heap.size:=by simpa[N7] using hy
  subst this;exact⟨Aae _,by show w.heap.size<(w.heap.push _).size;simp⟩
 refine N0 (.pointer (some ⟨w.heap.size,0,none⟩)) (w.alloc (.mapIter (some b) c #[] c)) rfl rfl hN (fun a ha=>?_) (h _ b c es xs _ ⟨hb,h1,h2,h3⟩ h4 (hI.add hx' hn rfl ⟨#[],heap_alloc_new w _,by rw[AS1 h3.len],fun _ h=>by cases h⟩) (hI.addA hx' hn))
 have hr:=run_range_map w t kt' e b es c ht h1
 simp[execOp,ha.eval hx,hr]
theorem AQp[Fx](j:Nat){b r c:Nat}{xs l:List (κ×α)}(hI:Hp w0 Mu M σ w)(hm:RdX K E ag (mm σ M) w b es c xs)(hj:σ[j]?=some (N7 r b c es xs o l))(hx:ev L x=some (.pointer (some ⟨r,0,none⟩)))(hN:blt d N=true)(h0:l=[]->Reg P N ops .seq rest ds ((d,.tuple #[.bool false])::L) w A B X Z)(h1:∀(y:κ×α) (l':List (κ×α)) k v w',l.Perm (y::l')->Hp w0 Mu M (σ.set j (N7 r b c es xs (some y) l')) w'->Adv (mm σ M) (mm (σ.set j (N7 r b c es xs (some y) l')) M) w w' ->
   Reg P N ops .seq rest ds ((d,.tuple #[.bool true,k,v])::L) w' A B X Z):
  Reg P N ops .seq (⟨some d,.next x false,ty,pos,af,none⟩::rest) ds L w A B X Z:=by
 obtain⟨_,hb,hs,hE⟩:=hm
 obtain⟨seen,hr,hl,_⟩:=hI.get j hj
 rcases run_next_at (P:=P) w ty r b c c seen es c hr hb hs.2 (Aae _) with⟨g1,g2⟩|⟨e,he,w1,hw1,g2⟩
 . refine N0 (.tuple #[.bool false]) w rfl rfl hN (fun a ha=>?_) (h0 ?_)
   . simp[execOp,ha.eval hx,g2]
   . rw[AS2 g1]at hl;exact List.perm_nil.1 hl
 . have hel:e∈es.toList/\seen.contains e.born=false:=by
    unfold leftOf at he;have he':e∈es.filter fun e=>!seen.contains e.born:=by simpa using he
    have:=Array.mem_filter.1 he';exact⟨by simpa using this.1,by simpa using this.2⟩
   obtain⟨y,hz⟩:=AFt hE.len e hel.1
   have hp:=AK8 (p:=(e,y)) (seen:=seen) (l:=es.toList.zip xs) (by rw[AK9 hE.len];exact hs.1) hz hel.2
   have hr1:w1.heap[r]?=some (.mapIter (some b) c seen c):=by rcases hw1 with rfl|rfl<;>exact hr
   have h01:Kp [r] w w1:=by
    rcases hw1 with rfl|rfl
    . exact Kp.refl _ _
    . exact Kp.drew _ _
   have hkp:Kp [r] w (setBlock w1 r (.mapIter (some b) c (seen.push e.born) c)):=h01.trans (AET hr1)
   have hn:∀z∈(N7 r b c es xs (some y) (J3 (es.toList.zip xs) (seen.push e.born))).fp,z∈(N7 r b c es xs o l).fp\/w.heap.size<=z:=fun z hz=>.inl hz
   refine N0 (.tuple #[.bool true,e.key,e.val]) _ rfl rfl hN (fun a ha=>?_) (h1 y (J3 (es.toList.zip xs) (seen.push e.born)) e.key e.val _ (hl.trans hp) (hI.upd j hj hkp hn rfl fun M' _=>⟨_,(MapKept.heap_set hr1).1,Abc _,fun y' hy'=>⟨seen,e,rfl,by cases hy';exact hz⟩⟩) (hI.updA (r':=N7 r b c es xs (some y) (J3 (es.toList.zip xs) (seen.push e.born))) j hj hkp hn))
   simp[execOp,ha.eval hx,g2]
theorem AQq[Fx](j:Nat){b r c:Nat}{xs l:List (κ×α)}{y:κ×α}(hI:Hp w0 Mu M σ w)(hm:RdX K E ag (mm σ M) w b es c xs)(hj:σ[j]?=some (N7 r b c es xs (some y) l))(hx:ev L x=some (.pointer (some ⟨r,0,none⟩)))(hN:blt d N=true)(h:∀v,K.ok y.1->Vl E ag (mm σ M) w v y.2->Reg P N ops .seq rest ds ((d,.tuple #[K.val y.1,v])::L) w A B X Z):
  Reg P N ops .seq (⟨some d,.entry x,ty,pos,af,none⟩::rest) ds L w A B X Z:=by
 obtain⟨_,hb,hs,hE⟩:=hm
 obtain⟨seen,hr,_,ho⟩:=hI.get j hj
 obtain⟨s0,e,rfl,hz⟩:=ho y rfl
 obtain⟨hk,hok,hv⟩:=hE.zip hz
 have h':=h e.val hok hv
 rw[<-hk]at h'
 refine N0 (.tuple #[e.key,e.val]) w rfl rfl hN (fun a ha=>?_) h'
 have:=run_entry_at (P:=P) w r b c s0 es c e hr hb (List.of_mem_zip hz).1 hs.1
 simp[execOp,ha.eval hx,this]
end
end
section
variable{P:Program}{N:Nat}{ops:Array Oper}{ds:List Deferred}{L:A8}{w:World}{A B:A5}{X:Nat->A5}{Z:List PanicEntry->A5}
theorem AQr(m:Nat){S β:Type}{ι:Type}{c:Code}(body:S->β->Option S)(E:ι->A8)(st:ι->S)(I:ι->List β->World->Prop)(i0:ι)(l0:List β){x:S}(hx:AnyR body l0 (st i0) x)(h0:I i0 l0 w)(hs:Sub (E i0++L.drop m) L)(round:∀i l w,I i l w->(l=[]->st i=x)->(∀y l',l.Perm (y::l')->∃s',body (st i) y=some s')->CW P N c ds (E i++L.drop m) w (fun ds' L' w'=>ds'=ds/\∃i' y l',(l.Perm (y::l')/\body (st i) y=some (st i')/\I i' l' w')/\Sub (E i'++L.drop m) L') B X Z):CW P N (.loop c) ds L w A B X Z:=by
 refine AAc (ι:=ι×List β) (fun p=>E p.1++L.drop m) (fun p w=>I p.1 p.2 w/\AnyR body p.2 (st p.1) x) (fun p=>p.2.length) (i0,l0) ⟨h0,hx⟩ hs fun p w hp=>?_;obtain⟨i,l⟩:=p;obtain⟨hI,hn⟩:=hp;refine AEQ (round i l w hI (fun h=>by subst h;exact hn.nil) fun y l' hp=>(hn.step hp).imp fun _ h=>h.1) fun e a w' hq=>?_;cases e with
 |normal=>
  obtain⟨ds',L',ha,rfl,i',y,l',⟨hp,hb,hI'⟩,hsub⟩:=hq
  obtain⟨s',hb',hn'⟩:=hn.step hp
  rw[hb]at hb'
  cases hb'
  exact⟨_,L',ha,rfl,(i',l'),⟨hI',hn'⟩,hsub,by have:=hp.length_eq;simp at this;show l'.length<l.length;omega⟩
 |_=>exact hq
end
end Go.Sx
namespace Go.Sx
open Go Go.RowKit
variable[Trk]
open Classical in
def W5{κ α R:Type}(m:A4 κ α)(K:List (κ×α)->Option R):Option R:=if h:∃r,∀l,Lists m l->K l=some r then some h.choose else none
theorem AI7{κ α R:Type}{m:A4 κ α}{K:List (κ×α)->Option R}{r:R}{l0:List (κ×α)}(h0:Lists m l0)(h:∀l,Lists m l->K l=some r):W5 m K=some r:=by
 unfold W5;rw[dif_pos ⟨r,h⟩];have h1:=(⟨r,h⟩:∃r,∀l,Lists m l->K l=some r).choose_spec l0 h0;rw[h l0 h0]at h1;exact h1.symm
theorem ALA{κ α R S:Type}{m:A4 κ α}{body:S->κ×α->Option S}{s0:S}{rest:S->Option R}{r:R}(h:W5 m (fun l=>(List.foldlM body s0 l).bind rest)=some r){xs:List (κ×α)}(hL:Lists m xs):
  ∃B:S->κ×α->Option S,B=body/\∀l:List (κ×α),l.Perm xs->∃s,List.foldlM B s0 l=some s/\rest s=some r:=by
 refine⟨body,rfl,fun l hl=>?_⟩
 unfold W5 at h
 split at h
 . rename_i h1
   have h2:=h1.choose_spec l (hL.perm hl)
   rw[AaO h]at h2
   have h2:(List.foldlM body s0 l).bind rest=some r:=h2
   cases hf:List.foldlM body s0 l with
   |none=>rw[hf]at h2;cases h2
   |some s=>rw[hf]at h2;exact⟨s,rfl,h2⟩
 . cases h
end Go.Sx
namespace Go.Sx
open Go Go.RowKit Go.ChangeMaps
variable[Trk]
theorem AEV{P:Program}{k:TypeId}(heq:∀(w:World) {x y:Value} {lx ly:Lit},keyOf P k x=some lx->keyOf P k y=some ly->∃r:Bool,(Op.equal k x y).run P w=.ok r w/\(r=true↔lx=ly)){x:Value}{lx:Lit}(hx:keyOf P k x=some lx):
  ∀(es:List MapEntry) (i:Nat),(∀e∈es,∃l,keyOf P k e.key=some l) ->
   ((∀w,(Instr.findAsking k x es i).run P w=.ok none w)/\∀e∈es,keyOf P k e.key≠some lx) \/
   ∃j e,(∀w,(Instr.findAsking k x es i).run P w=.ok (some (i+j,e.val)) w)/\es[j]?=some e/\keyOf P k e.key=some lx
 |[],i,_=>Or.inl ⟨fun w=>by simp[Instr.findAsking],by simp⟩
 |e::es,i,hall=>by
  obtain⟨l,hl⟩:=hall e (by simp);by_cases c:lx=l
  . refine .inr ⟨0,e,fun w=>?_,rfl,by rw[hl,c]⟩;obtain⟨r,hr,hiff⟩:=heq w hx hl;have:r=true:=hiff.2 c;subst this;simp[Instr.findAsking,hr]
  . have hr:∀w,(Op.equal k x e.key).run P w=.ok false w:=fun w=>by
     obtain⟨r,hr,hiff⟩:=heq w hx hl;have:r=false:=by
      cases r with
      |false=>rfl
      |true=>exact absurd (hiff.1 rfl) c
     subst this;exact hr
    rcases AEV heq hx es (i+1) (fun y hy=>hall y (by simp[hy])) with⟨h1,h2⟩|⟨j,e',h1,h2,h3⟩
    . refine .inl ⟨fun w=>by simp[Instr.findAsking,hr,h1],fun y hy=>?_⟩;rcases mem_cons.1 hy with rfl|hy
      . rw[hl];exact fun h=>c (AaO h).symm
      . exact h2 y hy
    . exact .inr ⟨j+1,e',fun w=>by simp[Instr.findAsking,hr,h1,Nat.add_assoc,Nat.add_comm 1 j],by simpa using h2,h3⟩
theorem AYl{P:Program}{t u:TypeId}{q:IntKind}{f0 f1:Field}(hu:P.underlying t=some (.struct #[f0,f1]))(h0:f0.type=u)(h1:f1.type=u)(o0:f0.offset=0)(o1:f1.offset=1)(n0:(f0.name != "_")=true)(n1:(f1.name != "_")=true)(hk:P.underlying u=some (.int q))(hc:P.cellsOf t=2)(hcu:P.cellsOf u=1)(hty:P.keyType t=true)(hsz:0<P.types.size){x y:Int}(hx:InK q x)(hy:InK q y):∃l,keyOf P t (.agg (toArray [.int q x,.int q y]))=some l:=by
 have w1:∀{z:Int},InK q z->(Lit.int q z).wf=true:=fun {z} h=>by simp only[Lit.wf,decide_eq_true_eq,Bool.and_eq_true];exact h
 have hl:∀(n:Nat) {z:Int},InK q z->P.keyLits (n+1) u [.int q z]=some [.int q z]:=fun n {z} h=>by
  unfold Program.keyLits;rw[hk];simp[w1 h]
 have hs:∀n:Nat,P.keyLits (n+1+1) t [.int q x,.int q y]=some [.int q x,.int q y]:=fun n=>by
  unfold Program.keyLits;rw[hu];have e0:((List.drop 0 [Value.int q x,Value.int q y]).take 1)=[Value.int q x]:=rfl;have e1:((List.drop 1 [Value.int q x,Value.int q y]).take 1)=[Value.int q y]:=rfl;simp[hc,n0,n1,h0,h1,o0,o1,hcu,hl n hx,hl n hy]
 obtain⟨n,hn⟩:∃n,P.types.size+1=n+1+1:=by
  refine⟨P.types.size-1,?_⟩;omega
 refine⟨.string (keyBytes [.int q x,.int q y]),?_⟩;unfold keyOf;rw[hu];have hf:(Value.agg (toArray [Value.int q x,Value.int q y])).formed P t=true:=by simp[Value.formed,hu,hc]
 simp only[hty,hf,Bool.and_self,if_true];rw[hn];show(P.keyLits (n+1+1) t [.int q x,.int q y]).map _=_;rw[hs n];rfl
def APS{P:Program}{kt:TypeId}{κ:Type}(hl:laidOutB P=true){m:Nat}(hm:m+1<=10000)(hrow:kt<P.types.size)(hk:P.keyTypeAt m kt=true)(hwide:(match P.underlying kt with|some (.array _ _)|some (.struct _)=>true|_=>false)=true)(val:κ->Value)(ok:κ->Prop)(hv:∀{a},ok a->∃l,keyOf P kt (val a)=some l)(hi:∀{a b:κ},ok a->ok b->val a=val b->a=b):Ky P kt κ where
 val:=val
 ok:=ok
 inj:=hi
 check:=fun ha w em=>by
  obtain⟨l,hl'⟩:=hv ha;exact(deep_law_laid hl hm hrow hk hwide).check w em hl'
 find:=fun {a} ha es hes=>by
  obtain⟨l,hl'⟩:=hv ha;have hall:∀e∈es,∃l,keyOf P kt e.key=some l:=fun e he=>by
   obtain⟨b,hb,h⟩:=hes e he;rw[h];exact hv hb
  have hwf:∀w,(Instr.findKey kt (val a) es).run P w=(Instr.findAsking kt (val a) es 0).run P w:=fun w=>run_findKey_eq w hwide _ _;rcases AEV (fun w {_ _ _ _} h1 h2=>run_equal_deep w (by omega) hk hwide h1 h2) hl' es 0 hall with⟨h1,h2⟩|⟨j,e0,h1,h2,h3⟩
  . exact .inl ⟨fun w=>by rw[hwf];exact h1 w,fun y hy e1=>h2 y hy (by rw[e1];exact hl')⟩
  . exact .inr ⟨j,e0,fun w=>by rw[hwf];simpa using h1 w,h2,(deep_law_laid hl hm hrow hk hwide).inj h3 hl'⟩
 stays:=fun ha w=>by
  obtain⟨l,hl'⟩:=hv ha;exact(deep_law_laid hl hm hrow hk hwide).stays w hl'
section
variable{P:Program}{kt:TypeId}{κ α:Type}{K:Ky P kt κ}{E:Enc α}{ag:Bool}
def AS3(K:Ky P kt κ)(w:World)(b st:Nat)(a:κ):Prop:=∃es c,w.heap[b]?=some (.map es c)/\∃(j:Nat) (e:MapEntry),es.toList[j]?=some e/\e.born=st/\e.key=K.val a
variable[DecidableEq κ]
def AEF(K:Ky P kt κ)(E:Enc α)(ag:Bool)(b:Nat)(f:A4 κ α)(a:κ)(y:α)(st:Nat):Res where
 fp:=[b]
 mu:=[]
 holds:=fun M w=>MapH K E ag M w b (B4 f a y)/\AS3 K w b st a
 adv:=fun ha hb h=>by
  obtain⟨⟨es,c,xs,h1,h2,h3,h4⟩,es',c',g1,g2⟩:=h;exact⟨⟨es,c,xs,(hb b (by simp)).trans h1,h2,h3.adv ha,h4⟩,es',c',(hb b (by simp)).trans g1,g2⟩
 lt:=fun h x hx=>by
  obtain⟨⟨es,c,xs,h1,_⟩,_⟩:=h;have:x=b:=by simpa using hx
  subst this;exact G0 h1
theorem APT{f:A4 κ α}{a:κ}{y z:α}:B4 (B4 f a y) a z=B4 f a z:=by
 funext k;unfold B4;by_cases e:k=a<;>simp[e]
theorem APU{f:A4 κ α}{a:κ}{y:α}(h:f a=some y):B4 f a y=f:=by
 funext k;unfold B4;by_cases e:k=a
 . subst e;simp[h]
 . simp[e]
variable{N:Nat}{ops:Array Oper}{q:Md}{rest:List Oper}{ds:List Deferred}{L:A8}{w w0:World}{A B:A5}{X:Nat->A5}{Z:List PanicEntry->A5}{d:Nat}{ty:TypeId}{pos:String}{af:Array Edge}{Mu M:List Nat}{σ:List Res}
section
variable{v:Value}{b:Nat}{f:A4 κ α}{z0:α}{x:Operand}{y:Operand}{t:TypeId}{e:TypeId}{a:κ}{st:Nat}{y0:α}
theorem APV{es:Array MapEntry}{j:Nat}{e:MapEntry}(h:es.toList[j]?=some e)(hk:e.key=v):(es.modify j fun e=>{ e with key:=v })=es:=by
 apply Array.ext';rw[AbI];refine Aa9 fun i=>?_;rw[AbS];by_cases c:j=i
 . subst c;rw[h];simp[<-hk]
 . simp[c]
theorem AWm[Fx](i:Nat){zv:Value}(hI:Hp w0 Mu M σ w)(hi:σ[i]?=some (mapO K E ag b f))(hx:ev L x=some (.map (some b)))(hy:ev L y=some (K.val a))(ha:K.ok a)(ht:P.underlying t=some (.map kt e))(hz:∀w,(zeroValue e).run P w=.ok zv w)(hzR:Vl E ag (mm σ M) w zv z0)(hN:blt d N=true)(h:∀v st w',Hp w0 Mu M (σ.set i (AEF K E ag b f a ((f a).getD z0) st)) w'->Adv (mm σ M) (mm (σ.set i (AEF K E ag b f a ((f a).getD z0) st)) M) w w'->Reg P N ops .seq rest ds ((d,.tuple #[v,.int .i64 (st:Int)])::L) w' A B X Z):
  Reg P N ops .seq (⟨some d,.mapEntry t x y,ty,pos,af,none⟩::rest) ds L w A B X Z:=by
 obtain⟨es,c,xs,h1,h2,h3,h4⟩:=hI.mapAt' i hi
 have key':∃(es':Array MapEntry) (c':Nat) (xs':List (κ×α)) (v:Value) (st:Nat),(Instr.mapEntry t (.map (some b)) (K.val a)).run P w=.ok (.tuple #[v,.int .i64 (st:Int)]) (setBlock w b (.map es' c'))/\Stp es' c'/\EntK K E ag (mm σ M) w es'.toList xs'/\Lists (B4 f a ((f a).getD z0)) xs'/\∃(j:Nat) (e:MapEntry),es'.toList[j]?=some e/\e.born=st/\e.key=K.val a:=by
  rcases K.find ha es.toList h3.keys with⟨g1,g2⟩|⟨j,e',g1,g2,g3⟩
  . have hno:∀x∈xs,x.1≠a:=fun x hx he=>by
     obtain⟨e',h5,h6⟩:=h3.back x hx;exact g2 e' h5 (by rw[h6,he])
    have hf:f a=none:=h4.none hno;refine⟨es.push ⟨K.val a,zv,c⟩,c+1,xs++[(a,z0)],zv,c,?_,⟨?_,fun x hx=>?_⟩,?_,by rw[hf];exact h4.push z0 hno,es.size,⟨K.val a,zv,c⟩,by simp,rfl,rfl⟩
    . simp[Instr.mapEntry,run_underlying ht,MapKept.run_getObj_map h1,K.check ha,g1,hz,MapKept.run_setObj_map _ h1,Result.andThen,setBlock,goInt]
    . rw[Abj,Aai,AcS];refine⟨h2.1,by simp,fun x hx y hy=>?_⟩;obtain⟨p,hp,rfl⟩:=mem_map.1 hx;have:=h2.2 p hp;have:y=c:=by simpa using hy
      omega
    . rw[Abj,Aaq]at hx;rcases hx with hx|hx
      . have:=h2.2 x hx;omega
      . have:x=⟨K.val a,zv,c⟩:=by simpa using hx
        subst this;exact Abm c
    . rw[Abj];exact h3.push ha hzR
  . obtain⟨x',hx',hk,hok,hv'⟩:=h3.at g2;have hxa:x'.1=a:=K.inj hok ha (by rw[<-hk,g3]);have hf:f a=some x'.2:=(h4.2 a x'.2).1 (by rw[<-hxa];exact AaP hx');have g4:es[j]?=some e':=by simpa using g2
    refine⟨es,c,xs,e'.val,e'.born,?_,h2,h3,?_,j,e',g2,rfl,g3⟩
    . simp[Instr.mapEntry,run_underlying ht,MapKept.run_getObj_map h1,K.check ha,g1,g4,g3,K.stays ha,APV g2 g3,MapKept.run_setObj_map _ h1,Result.andThen,setBlock,goInt]
    . rw[hf];show Lists (B4 f a x'.2) xs;rw[APU hf];exact h4
 obtain⟨es',c',xs',v,st,hr,hS,hE,hL,hSt⟩:=key'
 have hkp:Kp [b] w (setBlock w b (.map es' c')):=AET h1
 have hn:∀b'∈(AEF K E ag b f a ((f a).getD z0) st).fp,b'∈(mapO K E ag b f).fp\/w.heap.size<=b':=fun b' hb=>.inl hb
 have hhp:=(MapKept.heap_set (o':=.map es' c') h1).1
 refine N0 _ (setBlock w b (.map es' c')) rfl rfl hN (fun A hA=>?_) (h v st _ (hI.upd i hi hkp hn rfl fun M' hM'=>⟨⟨es',c',xs',hhp,hS,?_,hL⟩,es',c',hhp,hSt⟩) (hI.updA (r':=AEF K E ag b f a ((f a).getD z0) st) i hi hkp hn))
 . simp[execOp,hA.eval hx,hA.eval hy,hr]
 . have hb:b∈mm σ M:=mem_mm.2 (.inl ⟨_,AaP hi,by simp[mapO]⟩)
   refine(hE.adv ⟨hkp.mono fun x hx=>.inl ?_,fun x hx=>.inl hx⟩).mon fun x hx=>.inl ?_
   . have:x=b:=by simpa using hx
     subst this;exact hb
   . rcases hM' x hx with h9|h9
     . have:x=b:=by simpa[AEF] using h9
       subst this;exact hb
     . exact h9
theorem AWn[Fx](i:Nat){zv:Value}(hI:Hp w0 Mu M σ w)(hi:σ[i]?=some (AEF K E ag b f a y0 st))(hx:ev L x=some (.map (some b)))(hy:ev L y=some (K.val a))(ha:K.ok a)(ht:P.underlying t=some (.map kt e))(hz:∀w,(zeroValue e).run P w=.ok zv w)(hzR:Vl E ag (mm σ M) w zv z0)(hN:blt d N=true)(h:∀v,Vl E ag (mm σ M) w v y0->Reg P N ops .seq rest ds ((d,v)::L) w A B X Z):
  Reg P N ops .seq (⟨some d,.lookup t x y false,ty,pos,af,none⟩::rest) ds L w A B X Z:=by
 obtain⟨v,h1,h2⟩:=(hI.get i hi).1.lookup ha ht hz hzR
 have h3:(B4 f a y0 a).getD z0=y0:=by simp[B4]
 rw[h3]at h2
 refine N0 _ w rfl rfl hN (fun A hA=>?_) (h v h2)
 simp[execOp,hA.eval hx,hA.eval hy,h1 _ w rfl]
theorem AWo[Fx](i:Nat){y0 z:α}{x y u:Operand}(hI:Hp w0 Mu M σ w)(hi:σ[i]?=some (AEF K E ag b f a y0 st))(hx:ev L x=some (.map (some b)))(hy:ev L y=some (.int .i64 (st:Int)))(ha:K.ok a)(hu:ev L u=some v)(hv:Vl E ag (mm σ M) w v z)(h:∀w',Hp w0 Mu M (σ.set i (mapO K E ag b (B4 f a z))) w'->Adv (mm σ M) (mm (σ.set i (mapO K E ag b (B4 f a z))) M) w w'->Reg P N ops .seq rest ds L w' A B X Z):
  Reg P N ops .seq (⟨none,.entryStore t x y u,ty,pos,af,none⟩::rest) ds L w A B X Z:=by
 obtain⟨⟨es,c,xs,h1,h2,h3,h4⟩,es2,c2,g1,j,e,g2,g3,g4⟩:=hI.get i hi
 have:es2=es:=by rw[h1]at g1;injection g1 with g1;injection g1 with g1;exact g1.symm
 subst this
 obtain⟨x',hx',hk,hok,hv'⟩:=h3.at g2
 have hxa:x'.1=a:=K.inj hok ha (by rw[<-hk,g4])
 have hmod:(es2.modify j fun e=>{ e with val:=v })=es2.modify j fun e=>{ e with key:=K.val a,val:=v }:=by
  apply Array.ext';rw[AbI,AbI];refine Aa9 fun i=>?_;rw[AbS,AbS];by_cases c:j=i
  . subst c;rw[g2];simp[<-g4]
  . simp[c]
 have hr:(Instr.entryStore t (.map (some b)) (.int .i64 (st:Int)) v).run P w=.ok () (setBlock w b (.map (es2.modify j fun e=>{ e with key:=K.val a,val:=v }) c)):=by
  have hidx:es2.findIdx? (fun e=>((e.born:Nat):Int)==((st:Nat):Int))=some j:=by
   rw[WideElems.findIdx_arr,<-g3];exact WideElems.findIdx_born h2.1 g2
  simp[Instr.entryStore,MapKept.run_getObj_map h1,asInt,asIntOf,hidx,hmod,MapKept.run_setObj_map _ h1,Result.andThen,setBlock]
 have hL:Lists (B4 f a z) (xs.set j (a,z)):=by
  have:=h4.set (j:=j) (a:=a) (y:=x'.2) (by rw[hx',<-hxa]) z;rwa [APT]at this
 have hS:Stp (es2.modify j fun e=>{ e with key:=K.val a,val:=v }) c:=by
  refine⟨?_,fun x hx=>?_⟩
  . have:((es2.modify j fun e=>{ e with key:=K.val a,val:=v }).toList.map (·.born))=es2.toList.map (·.born):=by
     rw[AbI];refine Aa9 fun i=>?_;simp only[List.getElem?_map,List.getElem?_modify];by_cases e:j=i
     . subst e;cases es2.toList[j]? <;> simp
     . simp[e]
    rw[this];exact h2.1
  . rw[AbI]at hx;obtain⟨m,hm⟩:=Aar hx;rw[AbS]at hm;cases hq:es2.toList[m]? with
    |none=>rw[hq]at hm;cases hm
    |some e0=>
     rw[hq]at hm
     have:=h2.2 e0 (AaP hq)
     by_cases e:j=m
     . simp[e]at hm;subst hm;exact this
     . simp[e]at hm;subst hm;exact this
 have hE:EntK K E ag (mm σ M) w (es2.modify j fun e=>{ e with key:=K.val a,val:=v }).toList (xs.set j (a,z)):=by rw[AbI];exact h3.set ha hv j
 have hkp:Kp [b] w (setBlock w b (.map (es2.modify j fun e=>{ e with key:=K.val a,val:=v }) c)):=AET h1
 have hn:∀b'∈(mapO K E ag b (B4 f a z)).fp,b'∈(AEF K E ag b f a y0 st).fp\/w.heap.size<=b':=fun b' hb=>.inl hb
 refine Reg.sto _ rfl rfl (fun A hA=>?_) (h _ (hI.upd i hi hkp hn rfl fun M' hM'=>⟨_,c,xs.set j (a,z),(MapKept.heap_set h1).1,hS,?_,hL⟩) (hI.updA (r':=mapO K E ag b (B4 f a z)) i hi hkp hn))
 . simp[execOp,hA.eval hx,hA.eval hy,hA.eval hu,hr]
 . have hb:b∈mm σ M:=mem_mm.2 (.inl ⟨_,AaP hi,by simp[AEF]⟩)
   refine(hE.adv ⟨hkp.mono fun x hx=>.inl ?_,fun x hx=>.inl hx⟩).mon fun x hx=>.inl ?_
   . have:x=b:=by simpa using hx
     subst this;exact hb
   . rcases hM' x hx with h9|h9
     . have:x=b:=by simpa[mapO] using h9
       subst this;exact hb
     . exact h9
end
end
end Go.Sx
namespace Go.Sx
open Go Go.RowKit
section
variable[Trk]
variable{P:Program}{N:Nat}{ops:Array Oper}{q:Md}{rest:List Oper}{ds:List Deferred}{L:A8}{w:World}{A B:A5}{X:Nat->A5}{Z:List PanicEntry->A5}{d:Nat}{ty:TypeId}{pos:String}{af:Array Edge}
theorem AUR{t e:TypeId}{x y:Operand}{z v0 v1 z0 z1:Value}(hz:∀w,(zeroValue t).run P w=.ok z w)(hzc:z.cells=#[z0,z1])(ht:P.underlying t=some (.array 2 e))(hs:∀w,(sizeOf e).run P w=.ok 1 w)(hx:ev L x=some v0)(hy:ev L y=some v1)(h0:v0.cells=#[v0])(h1:v1.cells=#[v1])(hN:blt d N=true)(h:Reg P N ops q rest ds ((d,.agg [v0,v1].toArray)::L) w A B X Z):Reg P N ops q (⟨some d,.build t #[(0,x),(1,y)],ty,pos,af,none⟩::rest) ds L w A B X Z:=by
 refine Reg.val (.agg [v0,v1].toArray) rfl rfl hN (fun a ha w' _=>?_) h;simp[execOp,Instr.build,hz,hzc,run_underlying ht,hs,ha.eval hx,ha.eval hy,Instr.fill,h0,h1]
end
end Go.Sx
namespace Go.Sx
open Go Go.RowKit Go.ChangeMaps
open Classical in
def ALB{κ α:Type}(f:A4 κ α):Int:=if h:∃l,Lists f l then(h.choose.length:Int) else 0
theorem Lists.one{κ α:Type}{f:A4 κ α}{l l':List (κ×α)}(h:Lists f l)(h':Lists f l'):l.Perm l':=
 (AbN ((List.pairwise_map.1 h.1).imp fun h e=>h (AaX _ e)) ((List.pairwise_map.1 h'.1).imp fun h e=>h (AaX _ e))).2 fun⟨a,y⟩=>(h.2 a y).trans (h'.2 a y).symm
theorem AS4{κ α:Type}{f:A4 κ α}{l:List (κ×α)}(h:Lists f l):ALB f=l.length:=by
 unfold ALB;have hx:∃l,Lists f l:=⟨l,h⟩;rw[dif_pos hx];exact AaX _ (hx.choose_spec.one h).length_eq
theorem AWp{P:Program}{t u:TypeId}{q:IntKind}(hu:P.underlying t=some (.array 2 u))(hk:P.underlying u=some (.int q))(hc:P.cellsOf t=2)(hcu:P.cellsOf u=1)(hty:P.keyType t=true)(hsz:0<P.types.size){x y:Int}(hx:InK q x)(hy:InK q y):∃l,keyOf P t (.agg (toArray [.int q x,.int q y]))=some l:=by
 have w1:∀{z:Int},InK q z->(Lit.int q z).wf=true:=fun {z} h=>by simp only[Lit.wf,decide_eq_true_eq,Bool.and_eq_true];exact h
 have hl:∀(n:Nat) {z:Int},InK q z->P.keyLits (n+1) u [.int q z]=some [.int q z]:=fun n {z} h=>by
  unfold Program.keyLits;rw[hk];simp[w1 h]
 have hs:∀n:Nat,P.keyLits (n+1+1) t [.int q x,.int q y]=some [.int q x,.int q y]:=fun n=>by
  unfold Program.keyLits;rw[hu];have e0:((List.drop 0 [Value.int q x,Value.int q y]).take 1)=[Value.int q x]:=rfl;have e1:((List.drop 1 [Value.int q x,Value.int q y]).take 1)=[Value.int q y]:=rfl;have e2:List.range 2=[0,1]:=rfl;simp[hc,hcu,e2,hl n hx,hl n hy]
 obtain⟨n,hn⟩:∃n,P.types.size+1=n+1+1:=by
  refine⟨P.types.size-1,?_⟩;omega
 refine⟨.string (keyBytes [.int q x,.int q y]),?_⟩;unfold keyOf;rw[hu];have hf:(Value.agg (toArray [Value.int q x,Value.int q y])).formed P t=true:=by simp[Value.formed,hu,hc]
 simp only[hty,hf,Bool.and_self,if_true];rw[hn];show(P.keyLits (n+1+1) t [.int q x,.int q y]).map _=_;rw[hs n];rfl
end Go.Sx
namespace Go.Sx
open Go Go.RowKit
variable[Trk]
theorem condF{α:Type}(a b:α):cond false a b=b:=(fun (h:cond false a b=b)=>h) (by cases a_eq:(0:Nat)<;>rfl)
theorem condT{α:Type}(a b:α):cond true a b=a:=(fun (h:cond true a b=a)=>h) (by cases a_eq:(0:Nat)<;>rfl)
theorem AIB{α:Type}{l:List α}{i:Nat}{y:α}(h:l[i]?=some y):ixo l (i:Int)=some y:=by rw[ASr];exact h
theorem ABv{α:Type}{b:Nat}{xs ys:List α}(h:(xs.length+ys.length)*b<=140737488355328)(h2:xs.length+ys.length<=140737488355328):appo b xs ys=some (xs++ys):=Aac ⟨h,h2⟩
def Ret{α:Type}(o:Option α)(Q:α->Prop):Prop:=∃a,o=some a/\Q a
section
variable{α β S R:Type}
section
variable{o:Option α}{a:α}{Q:α->Prop}{b:Bool}{x:Option α}{y:Option α}{A:S->Prop}{γ:Type}{f:α->Option γ}{g:β->Option γ}
theorem Ret.val(h:o=some a)(q:Q a):Ret o Q:=⟨a,h,q⟩
theorem Ret.ok(q:Q a):Ret (some a) Q:=⟨a,rfl,q⟩
theorem Ret.bind{K:α->Option β}{Q:β->Prop}(h:Ret o fun a=>Ret (K a) Q):Ret (Option.bind o K) Q:=by
 obtain⟨a,h1,h2⟩:=h;subst h1;exact h2
theorem Ret.mono{Q Q':α->Prop}(h:Ret o Q)(hq:∀a,Q a->Q' a):Ret o Q':=by
 obtain⟨a,h1,h2⟩:=h;exact⟨a,h1,hq a h2⟩
theorem Ret.cond{b:Bool}{x y:Option α}{Q:α->Prop}(h1:b=true->Ret x Q)(h2:b=false->Ret y Q):Ret (cond b x y) Q:=by
 cases b with
 |true=>exact h1 rfl
 |false=>exact h2 rfl
theorem Ret.condT(h:b=true)(h1:Ret x Q):Ret (_root_.cond b x y) Q:=by subst h;exact h1
theorem Ret.condF(h:b=false)(h1:Ret y Q):Ret (_root_.cond b x y) Q:=by subst h;exact h1
theorem Ret.chk{x:Int}{Q:Int->Prop}(h:-9223372036854775808<=x/\x<=9223372036854775807)(q:Q x):Ret (chk .i64 x) Q:=⟨x,AI1 h,q⟩
theorem Ret.ixo{l:List α}{i:Nat}{y:α}{Q:α->Prop}(h:l[i]?=some y)(q:Q y):Ret (ixo l (i:Int)) Q:=⟨y,AIB h,q⟩
theorem Ret.appo{b:Nat}{xs ys:List α}{Q:List α->Prop}(h:(xs.length+ys.length)*b<=140737488355328)(h2:xs.length+ys.length<=140737488355328)(q:Q (xs++ys)):Ret (appo b xs ys) Q:=⟨_,ABv h h2,q⟩
theorem Ret.seto{l:List α}{i:Nat}{x:α}{Q:List α->Prop}(h:i<l.length)(q:Q (l.set i x)):Ret (seto l (i:Int) x) Q:=
 ⟨_,by unfold Sx.seto;rw[Aac ⟨by omega,by omega⟩,Int.toNat_natCast],q⟩
def Nxt(A:S->Prop)(Q:R->Prop):S⊕R->Prop
 |.inl s=>A s
 |.inr r=>Q r
theorem Ret.next{s:S}{Q:R->Prop}(h:A s):Ret (some (.inl s)) (Nxt A Q):=⟨_,rfl,h⟩
theorem Ret.done{r:R}{Q:R->Prop}(h:Q r):Ret (some (.inr r)) (Nxt A Q):=⟨_,rfl,h⟩
theorem Ret.elimL{Q:γ->Prop}(h:Ret (f a) Q):Ret (Sum.elim f g (.inl a)) Q:=h
theorem Ret.elimR{b:β}{Q:γ->Prop}(h:Ret (g b) Q):Ret (Sum.elim f g (.inr b)) Q:=h
theorem Ret.loop{body:S->Option (S⊕R)}{s0:S}{Q:R->Prop}(I:S->Prop)(μ:S->Nat)(h0:I s0)(step:∀s,I s->Ret (body s) (Nxt (fun s'=>I s'/\μ s'<μ s) Q)):Ret (B7 body s0) Q:=by
 have key:∀(n:Nat) (s:S),μ s<=n->I s->Ret (B7 body s) Q:=by
  intro n;induction n with
  |zero=>
   intro s hn hs
   obtain⟨r,h1,h2⟩:=step s hs
   cases r with
   |inl s'=>have:=h2.2;omega
   |inr r=>exact⟨r,ADm h1,h2⟩
  |succ n ih=>
   intro s hn hs
   obtain⟨r,h1,h2⟩:=step s hs
   cases r with
   |inl s'=>rw[AKr h1];exact ih s' (by have:=h2.2;omega) h2.1
   |inr r=>exact⟨r,ADm h1,h2⟩
 exact key _ s0 (Aae _) h0
end
end
def rawE(n:Nat)(h:0<n):Enc (List Value) where
 n:=n
 pos:=h
 R:=fun _ _ cs x=>cs=x/\x.length=n/\∀u∈x,u.oneCell'=true
 len:=fun h=>by rw[h.1];exact h.2.1
 kp:=fun _ h=>h
 mon:=fun _ h=>h
 one:=fun h u hu=>h.2.2 u (by rw[<-h.1];exact hu)
theorem CallsV.go{P:Program}{w:World}{g:Nat}{caps args all:List Value}{R R':Ending->World->Prop}(h2:∀args w,(callFunc g args).run P w=.ok (.enter g args) w)(he:args++caps=all)(h3:Calls P g all.toArray w R)(hr:∀e w',R e w'->R' e w'):CallsV P (.func (.func g) #[] caps.toArray) args w R':=(CallsV.ofL h2 he h3).mono hr
section
variable{P:Program}{N:Nat}{ops:Array Oper}{q:Md}{rest:List Oper}{ds:List Deferred}{L:A8}{w:World}{A B:A5}{X:Nat->A5}{Z:List PanicEntry->A5}
variable{w0:World}{Mu M:List Nat}{σ:List Res}
theorem Hp.lendC[Fx](h:Hp w0 Mu M σ w)(l:List Nat)(i:Nat){e b:Nat}{cs:List Value}(hl:l.contains i=false)(hi:σ[i]?=some (rowR e b cs)):RdC (mm (Sx.sel σ l) M) w b 0 cs:=by
 refine G5 (fun hb'=>?_) (h.row i hi);have hbf:b∈(rowR e b cs).fp:=by simp[rowR]
 rcases mem_mm.1 hb' with⟨s,hs,hb'⟩|hb'
 . obtain⟨j,hj,hs⟩:=Z6 hs;refine h.dis i j _ s hi hs (fun e=>?_) b hbf hb';subst e;simp at hl;exact hl hj
 . exact h.sepM _ (AaP hi) b hbf hb'
end
end Go.Sx
namespace Go.Proofs
open Go.Shelf
def AFu:Go.Shelf.Ren:=⟨fun|6=>93|15=>123|14=>127|28=>144|29=>145|20=>148|21=>149|22=>150|23=>151|24=>152|25=>153|26=>154|27=>155|46=>174|47=>167|48=>168|49=>175|50=>176|57=>183|n=>n,fun|22=>25|24=>53|25=>177|3=>3|39=>199|0=>0|53=>82|55=>217|4=>4|46=>210|45=>209|50=>75|5=>5|9=>9|66=>230|70=>234|76=>241|77=>242|n=>n,fun|n=>n⟩
theorem AI8:Go.Proofs.SlLaysF0.n6 prog AFu:={
 mixed:=by kernel_rfl
 f6:=⟨f93.name,by decide,func93.trans (AaX some (by kernel_rfl))⟩
 f14:=⟨f127.name,by decide,func127.trans (AaX some (by kernel_rfl))⟩
 f15:=func123.trans (AaX some (by kernel_rfl))
 f20:=⟨f148.name,by decide,func148.trans (AaX some (by kernel_rfl))⟩
 f21:=⟨f149.name,by decide,func149.trans (AaX some (by kernel_rfl))⟩
 f22:=⟨f150.name,by decide,func150.trans (AaX some (by kernel_rfl))⟩
 f23:=⟨f151.name,by decide,func151.trans (AaX some (by kernel_rfl))⟩
 f24:=⟨f152.name,by decide,func152.trans (AaX some (by kernel_rfl))⟩
 f25:=⟨f153.name,by decide,func153.trans (AaX some (by kernel_rfl))⟩
 f26:=⟨f154.name,by decide,func154.trans (AaX some (by kernel_rfl))⟩
 f27:=⟨f155.name,by decide,func155.trans (AaX some (by kernel_rfl))⟩
 f28:=func144.trans (AaX some (by kernel_rfl))
 f29:=func145.trans (AaX some (by kernel_rfl))
 f46:=⟨f174.name,by decide,func174.trans (AaX some (by kernel_rfl))⟩
 f47:=func167.trans (AaX some (by kernel_rfl))
 f48:=func168.trans (AaX some (by kernel_rfl))
 f49:=⟨f175.name,by decide,func175.trans (AaX some (by kernel_rfl))⟩
 f50:=⟨f176.name,by decide,func176.trans (AaX some (by kernel_rfl))⟩
 f57:=⟨f183.name,by decide,func183.trans (AaX some (by kernel_rfl))⟩
 t0:=underlying0
 a0:=isAgg0
 z0:=sizeOf0
 v0:=zeroValue0
 t3:=underlying3
 a3:=isAgg3
 z3:=sizeOf3
 v3:=zeroValue3
 t4:=underlying4
 a4:=isAgg4
 z4:=sizeOf4
 v4:=zeroValue4
 t5:=underlying5
 a5:=isAgg5
 z5:=sizeOf5
 v5:=zeroValue5
 t9:=underlying9
 a9:=isAgg9
 z9:=sizeOf9
 v9:=zeroValue9
 t22:=underlying25
 a22:=isAgg25
 z22:=sizeOf25
 v22:=zeroValue25
 t25:=underlying177
 a25:=isAgg177
 z25:=sizeOf177
 v25:=zeroValue177
 t39:=underlying199
 a39:=isAgg199
 z39:=sizeOf199
 v39:=zeroValue199
 t45:=underlying209
 a45:=isAgg209
 z45:=sizeOf209
 v45:=zeroValue209
 t46:=underlying210
 a46:=isAgg210
 z46:=sizeOf210
 v46:=zeroValue210
 t50:=underlying75
 a50:=isAgg75
 z50:=sizeOf75
 v50:=zeroValue75
 t53:=underlying82
 a53:=isAgg82
 z53:=sizeOf82
 v53:=zeroValue82
 t55:=underlying217
 a55:=isAgg217
 z55:=sizeOf217
 v55:=zeroValue217
 t66:=underlying230
 a66:=isAgg230
 z66:=sizeOf230
 v66:=zeroValue230
 t70:=underlying234
 a70:=isAgg234
 z70:=sizeOf234
 v70:=zeroValue234
 t76:=underlying241
 a76:=isAgg241
 z76:=sizeOf241
 v76:=zeroValue241
 t77:=underlying242
 a77:=isAgg242
 z77:=sizeOf242
 v77:=zeroValue242 }
def AFh:Go.Shelf.Ren:=⟨fun|6=>118|15=>123|14=>135|28=>144|29=>145|20=>158|21=>159|22=>160|23=>161|24=>162|25=>163|26=>164|27=>165|46=>178|47=>167|48=>168|49=>179|50=>180|57=>184|n=>n,fun|22=>24|24=>45|25=>193|3=>3|39=>199|0=>0|53=>82|55=>217|4=>4|46=>210|45=>209|50=>75|5=>5|9=>9|66=>230|70=>234|76=>241|77=>242|n=>n,fun|n=>n⟩
theorem ADq:Go.Proofs.SlLaysF0.n6 prog AFh:={
 mixed:=by kernel_rfl
 f6:=⟨f118.name,by decide,func118.trans (AaX some (by kernel_rfl))⟩
 f14:=⟨f135.name,by decide,func135.trans (AaX some (by kernel_rfl))⟩
 f15:=func123.trans (AaX some (by kernel_rfl))
 f20:=⟨f158.name,by decide,func158.trans (AaX some (by kernel_rfl))⟩
 f21:=⟨f159.name,by decide,func159.trans (AaX some (by kernel_rfl))⟩
 f22:=⟨f160.name,by decide,func160.trans (AaX some (by kernel_rfl))⟩
 f23:=⟨f161.name,by decide,func161.trans (AaX some (by kernel_rfl))⟩
 f24:=⟨f162.name,by decide,func162.trans (AaX some (by kernel_rfl))⟩
 f25:=⟨f163.name,by decide,func163.trans (AaX some (by kernel_rfl))⟩
 f26:=⟨f164.name,by decide,func164.trans (AaX some (by kernel_rfl))⟩
 f27:=⟨f165.name,by decide,func165.trans (AaX some (by kernel_rfl))⟩
 f28:=func144.trans (AaX some (by kernel_rfl))
 f29:=func145.trans (AaX some (by kernel_rfl))
 f46:=⟨f178.name,by decide,func178.trans (AaX some (by kernel_rfl))⟩
 f47:=func167.trans (AaX some (by kernel_rfl))
 f48:=func168.trans (AaX some (by kernel_rfl))
 f49:=⟨f179.name,by decide,func179.trans (AaX some (by kernel_rfl))⟩
 f50:=⟨f180.name,by decide,func180.trans (AaX some (by kernel_rfl))⟩
 f57:=⟨f184.name,by decide,func184.trans (AaX some (by kernel_rfl))⟩
 t0:=underlying0
 a0:=isAgg0
 z0:=sizeOf0
 v0:=zeroValue0
 t3:=underlying3
 a3:=isAgg3
 z3:=sizeOf3
 v3:=zeroValue3
 t4:=underlying4
 a4:=isAgg4
 z4:=sizeOf4
 v4:=zeroValue4
 t5:=underlying5
 a5:=isAgg5
 z5:=sizeOf5
 v5:=zeroValue5
 t9:=underlying9
 a9:=isAgg9
 z9:=sizeOf9
 v9:=zeroValue9
 t22:=underlying24
 a22:=isAgg24
 z22:=sizeOf24
 v22:=zeroValue24
 t25:=underlying193
 a25:=isAgg193
 z25:=sizeOf193
 v25:=zeroValue193
 t39:=underlying199
 a39:=isAgg199
 z39:=sizeOf199
 v39:=zeroValue199
 t45:=underlying209
 a45:=isAgg209
 z45:=sizeOf209
 v45:=zeroValue209
 t46:=underlying210
 a46:=isAgg210
 z46:=sizeOf210
 v46:=zeroValue210
 t50:=underlying75
 a50:=isAgg75
 z50:=sizeOf75
 v50:=zeroValue75
 t53:=underlying82
 a53:=isAgg82
 z53:=sizeOf82
 v53:=zeroValue82
 t55:=underlying217
 a55:=isAgg217
 z55:=sizeOf217
 v55:=zeroValue217
 t66:=underlying230
 a66:=isAgg230
 z66:=sizeOf230
 v66:=zeroValue230
 t70:=underlying234
 a70:=isAgg234
 z70:=sizeOf234
 v70:=zeroValue234
 t76:=underlying241
 a76:=isAgg241
 z76:=sizeOf241
 v76:=zeroValue241
 t77:=underlying242
 a77:=isAgg242
 z77:=sizeOf242
 v77:=zeroValue242 }
def AFv:Go.Shelf.Ren:=⟨fun|6=>86|15=>123|14=>122|28=>144|29=>145|20=>136|21=>137|22=>138|23=>139|24=>140|25=>141|26=>142|27=>143|46=>166|47=>167|48=>168|49=>169|50=>170|57=>181|n=>n,fun|22=>37|24=>70|25=>170|3=>3|39=>199|0=>0|53=>82|55=>217|4=>4|46=>210|45=>209|50=>75|5=>5|9=>9|66=>230|70=>234|76=>241|77=>242|n=>n,fun|n=>n⟩
theorem AI9:Go.Proofs.SlLaysF0.n6 prog AFv:={
 mixed:=by kernel_rfl
 f6:=⟨f86.name,by decide,func86.trans (AaX some (by kernel_rfl))⟩
 f14:=⟨f122.name,by decide,func122.trans (AaX some (by kernel_rfl))⟩
 f15:=func123.trans (AaX some (by kernel_rfl))
 f20:=⟨f136.name,by decide,func136.trans (AaX some (by kernel_rfl))⟩
 f21:=⟨f137.name,by decide,func137.trans (AaX some (by kernel_rfl))⟩
 f22:=⟨f138.name,by decide,func138.trans (AaX some (by kernel_rfl))⟩
 f23:=⟨f139.name,by decide,func139.trans (AaX some (by kernel_rfl))⟩
 f24:=⟨f140.name,by decide,func140.trans (AaX some (by kernel_rfl))⟩
 f25:=⟨f141.name,by decide,func141.trans (AaX some (by kernel_rfl))⟩
 f26:=⟨f142.name,by decide,func142.trans (AaX some (by kernel_rfl))⟩
 f27:=⟨f143.name,by decide,func143.trans (AaX some (by kernel_rfl))⟩
 f28:=func144.trans (AaX some (by kernel_rfl))
 f29:=func145.trans (AaX some (by kernel_rfl))
 f46:=⟨f166.name,by decide,func166.trans (AaX some (by kernel_rfl))⟩
 f47:=func167.trans (AaX some (by kernel_rfl))
 f48:=func168.trans (AaX some (by kernel_rfl))
 f49:=⟨f169.name,by decide,func169.trans (AaX some (by kernel_rfl))⟩
 f50:=⟨f170.name,by decide,func170.trans (AaX some (by kernel_rfl))⟩
 f57:=⟨f181.name,by decide,func181.trans (AaX some (by kernel_rfl))⟩
 t0:=underlying0
 a0:=isAgg0
 z0:=sizeOf0
 v0:=zeroValue0
 t3:=underlying3
 a3:=isAgg3
 z3:=sizeOf3
 v3:=zeroValue3
 t4:=underlying4
 a4:=isAgg4
 z4:=sizeOf4
 v4:=zeroValue4
 t5:=underlying5
 a5:=isAgg5
 z5:=sizeOf5
 v5:=zeroValue5
 t9:=underlying9
 a9:=isAgg9
 z9:=sizeOf9
 v9:=zeroValue9
 t22:=underlying37
 a22:=isAgg37
 z22:=sizeOf37
 v22:=zeroValue37
 t25:=underlying170
 a25:=isAgg170
 z25:=sizeOf170
 v25:=zeroValue170
 t39:=underlying199
 a39:=isAgg199
 z39:=sizeOf199
 v39:=zeroValue199
 t45:=underlying209
 a45:=isAgg209
 z45:=sizeOf209
 v45:=zeroValue209
 t46:=underlying210
 a46:=isAgg210
 z46:=sizeOf210
 v46:=zeroValue210
 t50:=underlying75
 a50:=isAgg75
 z50:=sizeOf75
 v50:=zeroValue75
 t53:=underlying82
 a53:=isAgg82
 z53:=sizeOf82
 v53:=zeroValue82
 t55:=underlying217
 a55:=isAgg217
 z55:=sizeOf217
 v55:=zeroValue217
 t66:=underlying230
 a66:=isAgg230
 z66:=sizeOf230
 v66:=zeroValue230
 t70:=underlying234
 a70:=isAgg234
 z70:=sizeOf234
 v70:=zeroValue234
 t76:=underlying241
 a76:=isAgg241
 z76:=sizeOf241
 v76:=zeroValue241
 t77:=underlying242
 a77:=isAgg242
 z77:=sizeOf242
 v77:=zeroValue242 }
end Go.Proofs
namespace Go.Sx
open Go Go.RowKit Go.WideShapes
variable[Trk]
def M7(P:Program)(t:TypeId){α:Type}(E:Enc α):Prop:=
 ∀(H:Type) (enc:TypeId×Value->H) (w:World) (n:Nat) (cs:List Value) (x:DataW H×List MemPlace),DataW.trod enc P w 0 (fun _=>true) true n t cs=some x->∃a,E.R [] w cs a
section
variable{k:IntKind}{P:Program}{t:TypeId}{α:Type}{β:Type}{E:Enc α}{N:Nat}{f:Field}
theorem ALC{n:Int}(h:(Lit.int k n).wf=true):InK k n:=by
 simpa[Lit.wf,InK] using h
theorem AIC(ht:P.underlying t=some (.int k)):M7 P t (A9 k):=fun H enc w n cs x h=>by
 obtain⟨r,e1,_,hw⟩:=DataW.trod_int ht h;exact⟨r,e1,ALC hw⟩
theorem ABd{f:β->α}(g:α->β)(hg:∀a,f (g a)=a)(B:M7 P t E):M7 P t (S6 f E):=fun H enc w n cs x h=>by
 obtain⟨a,ha⟩:=B H enc w n cs x h;exact⟨g a,by show E.R [] w cs (f (g a));rw[hg];exact ha⟩
theorem ADE{t e:TypeId}(ht:P.underlying t=some (.slice e))(hc:P.cellsOf e=E.n)(B:M7 P e E):M7 P t (E6 E):=fun H enc w n cs x h=>by
 rcases Go.Deep.open_slice ht h with⟨rfl,_⟩|⟨a,len,cap,m,k,D,Pl,rfl,hb,hl,hm,hmm,_,hel⟩
 . exact⟨[],.slice none 0 0,rfl,RdS.nil _ _ _⟩
 . simp only[if_true]at hmm;rw[hmm]at hel;have hx:∀i,∃y:Option α,i<len->∃cs' a',y=some a'/\E.R [] w cs' a'/\w.cells? 0 (a.add (i*P.cellsOf e)) (P.cellsOf e)=some cs':=fun i=>by
    by_cases hi:i<len
    . obtain⟨cs',h1,h2⟩:=hel i (by omega);obtain⟨a',ha⟩:=B H enc w k cs' _ h2;exact⟨some a',fun _=>⟨cs',a',rfl,ha,h1⟩⟩
    . exact⟨none,fun h=>absurd h hi⟩
   by_cases h0:len=0
   . subst h0;exact⟨[],.slice (some a) 0 cap,rfl,some a,cap,rfl,Aas _,hm,.inl rfl⟩
   have hlist:∃xs:List α,xs.length=len/\∀i (hi:i<xs.length),∃cs',E.R [] w cs' xs[i]/\w.cells? 0 (a.add (i*P.cellsOf e)) (P.cellsOf e)=some cs':=by
    have h1:∀i (hi:i<len),∃a',∃cs',E.R [] w cs' a'/\w.cells? 0 (a.add (i*P.cellsOf e)) (P.cellsOf e)=some cs':=fun i hi=>by
     obtain⟨y,hy⟩:=hx i;obtain⟨cs',a',_,h2,h3⟩:=hy hi;exact⟨a',cs',h2,h3⟩
    refine⟨List.ofFn fun i:Fin len=>(h1 i.1 i.2).choose,by simp,fun i hi=>?_⟩;have hi':i<len:=by simpa using hi
    simpa using (h1 i hi').choose_spec
   obtain⟨xs,hxl,hxs⟩:=hlist;have hpos:=E.pos;have hspot:∃b o,a=⟨b,o,none⟩:=by
    obtain⟨cs',hR,hcc⟩:=hxs 0 (by omega);obtain⟨_,hlen,hcell⟩:=World.cells?_some hcc;have hn:=E.len hR;have h00:=hcell 0 (by omega);rw[Nat.zero_mul]at h00;have ha:(a.add 0).add 0=a:=by simp[Addr.add]
    rw[ha,AaV (by omega)]at h00;obtain⟨b,o,s⟩:=a;have hs:s=none:=World.cell?_spot h00;exact⟨b,o,by rw[hs]⟩
   obtain⟨b,o,rfl⟩:=hspot;have hlt:b<w.heap.size:=by
    obtain⟨cs',hR,hcc⟩:=hxs 0 (by omega);obtain⟨_,hlen,hcell⟩:=World.cells?_some hcc;have hn:=E.len hR;have h00:=hcell 0 (by omega);rw[AaV (by omega)]at h00;have:=AGV h00;simpa[add_none] using this
   refine⟨xs,.slice (some ⟨b,o,none⟩) len cap,rfl,some ⟨b,o,none⟩,cap,by rw[hxl],by omega,hm,.inr ⟨b,o,rfl,by simp,hlt,fun i hi=>?_⟩⟩;obtain⟨cs',hR,hcc⟩:=hxs i hi;obtain⟨_,hlen,hcell⟩:=World.cells?_some hcc;refine⟨cs',hR,fun j u hj=>?_⟩;have hjl:j<P.cellsOf e:=by
    rcases Aag j cs'.length with h|h
    . omega
    . simp[List.getElem?_eq_none h]at hj
   have:=hcell j hjl;rw[add_none,add_none,hj,hc]at this;exact this
def AGZ(P:Program)(N:Nat)(fs:List Field){α:Type}(E:Enc α):Prop:=
 ∀(H:Type) (enc:TypeId×Value->H) (w:World) (cs:List Value),cs.length=N ->
  (∀f∈fs,∃(n:Nat) (x:DataW H×List MemPlace),DataW.trod enc P w 0 (fun _=>true) true n f.type ((cs.drop f.offset).take (P.cellsOf f.type))=some x) ->
  ∃a,E.R [] w (cs.drop ((fs.head?.map (·.offset)).getD 0)) a
theorem AEW(B:M7 P f.type E)(hN:f.offset+P.cellsOf f.type=N):AGZ P N [f] E:=fun H enc w cs hl h=>by
 obtain⟨n,x,hx⟩:=h f (by simp);have:(cs.drop f.offset).take (P.cellsOf f.type)=cs.drop f.offset:=Aa7 (by rw[Ab0];omega);rw[this]at hx;exact B H enc w n _ x hx
theorem H3{f g:Field}{r:List Field}{F:Enc β}(B:M7 P f.type E)(hN:f.offset+P.cellsOf f.type=g.offset)(R:AGZ P N (g::r) F):AGZ P N (f::g::r) (B2 E F):=
 fun H enc w cs hl h=>by
  obtain⟨n,x,hx⟩:=h f (by simp);obtain⟨a,ha⟩:=B H enc w n _ x hx;obtain⟨b,hb⟩:=R H enc w cs hl fun f' hf'=>h f' (AaQ _ hf');refine⟨(a,b),(cs.drop f.offset).take (P.cellsOf f.type),cs.drop g.offset,?_,ha,hb⟩;show cs.drop f.offset=_;rw[<-hN,<-AcL,Aby]
theorem Z0{r:List Field}(ht:P.underlying t=some (.struct (f::r).toArray))(h0:f.offset=0)(F:AGZ P (P.cellsOf t) (f::r) E):M7 P t E:=fun H enc w n cs x h=>by
 obtain⟨xs,m,_,_,hl,hlen,hf⟩:=DataW.trod_struct ht h;obtain⟨a,ha⟩:=F H enc w cs hl fun g hg=>by
  obtain⟨i,hi,rfl⟩:=AbV hg;have hi':i<xs.length:=by rw[hlen];simpa using hi
  have:=hf i (f::r)[i] (by simp[List.getElem?_eq_getElem hi]);rw[AaV hi']at this;exact⟨m,_,this⟩
 exact⟨a,by simpa[h0] using ha⟩
theorem ADF(B:M7 P t E){H:Type}{enc:TypeId×Value->H}{w:World}{v:Value}{d:DataW H}{p:List MemPlace}(h:DataW.Trod enc P w 0 (fun _=>true) true t v d p):∃a,E.R [] w v.cells.toList a:=by
 obtain⟨n,hn⟩:=h;exact B H enc w n _ _ hn
end
end Go.Sx
namespace Go.Proofs
open Go.Shelf
def AHO:Go.Shelf.Ren:=⟨fun|4=>120|n=>n,fun|22=>24|25=>45|3=>3|4=>4|9=>9|20=>20|0=>0|n=>n,fun|n=>n⟩
theorem AFw:Go.Proofs.Lays8.n4 prog AHO:={
 mixed:=by kernel_rfl
 f4:=⟨f120.name,by decide,func120.trans (AaX some (by kernel_rfl))⟩
 t0:=underlying0
 a0:=isAgg0
 z0:=sizeOf0
 v0:=zeroValue0
 t3:=underlying3
 a3:=isAgg3
 z3:=sizeOf3
 v3:=zeroValue3
 t4:=underlying4
 a4:=isAgg4
 z4:=sizeOf4
 v4:=zeroValue4
 t9:=underlying9
 a9:=isAgg9
 z9:=sizeOf9
 v9:=zeroValue9
 t20:=underlying20
 a20:=isAgg20
 z20:=sizeOf20
 v20:=zeroValue20
 t22:=underlying24
 a22:=isAgg24
 z22:=sizeOf24
 v22:=zeroValue24 }
end Go.Proofs
namespace Go.Sx
open Go Go.RowKit
abbrev vi(x:Int):Value:=.int .i64 x
abbrev vu(x:Int):Value:=.int .u8 x
abbrev vp(b n:Nat):Value:=.pointer (some ⟨b,n,none⟩)
section
variable[Trk]
theorem sb1{t0:Nat}{v0:Value}{L:A8}(h0:A6 L t0=some v0):Sub [(t0,v0)] L:=Sub.cons h0 (Sub.nil _)
theorem sb2{t0 t1:Nat}{v0 v1:Value}{L:A8}(h0:A6 L t0=some v0)(h1:A6 L t1=some v1):Sub [(t0,v0),(t1,v1)] L:=Sub.cons h0 (Sub.cons h1 (Sub.nil _))
theorem on27{v0 v1 v2 v3 v4 v5 v6 v7 v8 v9 v10 v11 v12 v13 v14 v15 v16 v17 v18 v19 v20 v21 v22 v23 v24 v25 v26:Value}(h0:v0.oneCell'=true)(h1:v1.oneCell'=true)(h2:v2.oneCell'=true)(h3:v3.oneCell'=true)(h4:v4.oneCell'=true)(h5:v5.oneCell'=true)(h6:v6.oneCell'=true)(h7:v7.oneCell'=true)(h8:v8.oneCell'=true)(h9:v9.oneCell'=true)(h10:v10.oneCell'=true)(h11:v11.oneCell'=true)(h12:v12.oneCell'=true)(h13:v13.oneCell'=true)(h14:v14.oneCell'=true)(h15:v15.oneCell'=true)(h16:v16.oneCell'=true)(h17:v17.oneCell'=true)(h18:v18.oneCell'=true)(h19:v19.oneCell'=true)(h20:v20.oneCell'=true)(h21:v21.oneCell'=true)(h22:v22.oneCell'=true)(h23:v23.oneCell'=true)(h24:v24.oneCell'=true)(h25:v25.oneCell'=true)(h26:v26.oneCell'=true):∀u∈[v0,v1,v2,v3,v4,v5,v6,v7,v8,v9,v10,v11,v12,v13,v14,v15,v16,v17,v18,v19,v20,v21,v22,v23,v24,v25,v26],u.oneCell'=true:=one1 h0 (one1 h1 (one1 h2 (one1 h3 (one1 h4 (one1 h5 (one1 h6 (one1 h7 (one1 h8 (one1 h9 (one1 h10 (one1 h11 (one1 h12 (one1 h13 (one1 h14 (one1 h15 (one1 h16 (one1 h17 (one1 h18 (one1 h19 (one1 h20 (one1 h21 (one1 h22 (one1 h23 (one1 h24 (one1 h25 (one1 h26 (one0)))))))))))))))))))))))))))
def pick:List Nat->A8->Option A8
 |[],_=>some []
 |k::ks,L=>match A6 L k,pick ks L with
  |some v,some r=>some ((k,v)::r)
  |_,_=>none
theorem ALD:∀{ks:List Nat} {L L':A8},pick ks L'=some L->Sub L L'
 |[],_,_,h=>by cases h;exact Sub.nil _
 |k::ks,L,L',h=>by
  unfold pick at h;split at h
  . rename_i v r h1 h2;cases h
    exact Sub.cons h1 (ALD h2)
  . cases h
theorem Q0{P:Program}{N:Nat}{ds:List Deferred}{L L':A8}{w:World}{A B:A5}{X:Nat->A5}{Z:List PanicEntry->A5}{c:Code}(ks:List Nat)(hp:pick ks L'=some L)(h:CW P N c ds L w A B X Z):CW P N c ds L' w A B X Z:=AC7 (ALD hp) h
end
end Go.Sx
end
