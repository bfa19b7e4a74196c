/-
  KindSubstUptoSaid is proved: where what comes in is of bulk at most 1048576, chiasmuslaw07.KindSubst returns true, and what came in reads as it did.
-/
import Derived.Test.YtponmhjjmbhocaaPC
import Derived.Test.YtponmhjjmbhocaaRows
import Derived.OpenShut
import Derived.ChangeStays
import Derived.JoinedCond
import Derived.WideShapes
import Derived.RowKit
import Derived.Test.YtponmhjjmbhocaaPD
import Derived.Test.YtponmhjjmbhocaaProg
import Derived.Test.YtponmhjjmbhocaaPH
import Derived.Test.YtponmhjjmbhocaaPK
set_option linter.unusedVariables false
set_option linter.unusedSimpArgs false
namespace Go.Sim
open Go
inductive RD (w:World):AV → Value → Prop
 | lit {x:Value} (h:plainV x=true):RD w (.lit x) x
 | nil (sz:Nat):RD w (.slice .none sz []) (.slice none 0 0)
 | slice {sz:Nat} {xs:List AV} {ad:Addr} {cap:Nat} (hl:xs.length ≤ cap) (hs:xs=[] ∨ ad.spot=none) (hc:∀ x ∈ xs,x.cells.length=sz) (f:Nat → Value)
    (hf:∀ j c,(flat xs)[j]?=some c → w.cell? ⟨ad.block,ad.off + j,none⟩=some (f j)) (hr:∀ j c,(flat xs)[j]?=some c → RD w c (f j)) :
    RD w (.slice .none sz xs) (.slice (some ad) xs.length cap)
def ghost0 (w:World):Gh:=⟨fun b o c=>∃ v,w.cell? ⟨b,o,none⟩=some v ∧ RD w c v,fun _=>.free,fun _=>none,fun _=>none,fun _=>none,fun _=>false⟩
theorem RD.vr {w:World} {a:AV} {v:Value} (h:RD w a v):VR (ghost0 w) a v ∧ a.nt=true ∧ a.isCell=true:=by
 cases h with
 | lit h=>exact ⟨by unfold VR;exact ⟨rfl,h⟩,rfl,rfl⟩
 | nil sz=>exact ⟨by simp only [VR];exact ⟨none,0,rfl,Nat.le_refl _,fun x hx=>(by cases hx),rfl,trivial⟩,rfl,rfl⟩
 | slice hl hs hc f hf hr =>
   refine ⟨?_,J,J⟩
   simp only [VR]
   exact ⟨_,_,rfl,hl,hc,⟨hs,fun j c h=>⟨f j,hf j c h,hr j c h⟩⟩,trivial⟩
def RDs (w:World) (aa:List AV) (vs:List Value):Prop:=aa.length=vs.length ∧ ∀ (j:Nat) (c:AV) (v:Value),aa[j]?=some c → vs[j]?=some v → RD w c v
theorem RDs.append {w:World} {aa bs:List AV} {vs ws:List Value} (h:RDs w aa vs) (k:RDs w bs ws):RDs w (aa ++ bs) (vs ++ ws):=by
 refine ⟨by simp [h.1,k.1],fun j c v ha hv=>?_⟩
 by_cases hj:j < aa.length
 ·rw [List.getElem?_append_left hj] at ha
  rw [List.getElem?_append_left (by rw [← h.1];exact hj)] at hv
  exact h.2 j c v ha hv
 rw [List.getElem?_append_right (by omega)] at ha
 rw [List.getElem?_append_right (by rw [← h.1];omega),← h.1] at hv
 exact k.2 _ c v ha hv
theorem RDs.one {w:World} {a:AV} {v:Value} (h:RD w a v):RDs w [a] [v]:=by
 refine ⟨J,fun j c u ha hv=>?_⟩
 cases j with
 | zero=>simp at ha hv;subst ha;subst hv;exact h
 | succ j=>simp at ha
theorem RDs.vrs {w:World} {aa:List AV} {vs:List Value} (h:RDs w aa vs):VRs (ghost0 w) aa vs ∧ AV.nts aa=true ∧ aa.all AV.isCell=true:=by
 refine ⟨VRs_of h.1.symm fun i a v ha hv=>(h.2 i a v ha hv).vr.1,?_,?_⟩
 ·have:∀ (aa:List AV),(∀ a ∈ aa,a.nt=true) → AV.nts aa=true:=by
   intro aa
   induction aa with
   | nil=>intro _;rfl
   | cons a r ih=>intro h;simp only [AV.nts,h a (List.mem_cons_self ..),ih fun b hb=>h b (List.mem_cons_of_mem _ hb)];rfl
  refine this aa fun a ha=>?_
  obtain ⟨i,hi,rfl⟩:=List.getElem_of_mem ha
  exact (h.2 i _ (vs[i]'(by rw [← h.1];exact hi)) (by simp [hi]) (by simp)).vr.2.1
 refine List.all_eq_true.2 fun a ha=>?_
 obtain ⟨i,hi,rfl⟩:=List.getElem_of_mem ha
 exact (h.2 i _ (vs[i]'(by rw [← h.1];exact hi)) (by simp [hi]) (by simp)).vr.2.2
section
variable {H:Type} {enc:TypeId × Value → H} {P:Program} {w:World} {sp:Nat → Bool}
open Go.Proofs.Ytponmhjjmbhocaa.Rows (uptoBulk uptoBulkAll)
def Rdg (enc:TypeId × Value → H) (P:Program) (w:World) (sp:Nat → Bool) (t:TypeId) {α:Type} (cells:α → List AV) (sz:α → Nat) (n:Nat):Prop :=
 ∀ m,m ≤ n → ∀ cs x,DataW.trod enc P w 0 sp true m t cs=some x → ∃ a,RDs w (cells a) cs ∧ sz a ≤ uptoBulk x.1
theorem Rdg.less {t:TypeId} {α:Type} {cells:α → List AV} {sz:α → Nat} {n k:Nat} (h:Rdg enc P w sp t cells sz n) (hk:k ≤ n):Rdg enc P w sp t cells sz k :=
 fun m hm cs x hx=>h m (Nat.le_trans hm hk) cs x hx
theorem Rdg.to {t:TypeId} {α β:Type} {cells:α → List AV} {sz:α → Nat} {n:Nat} (h:Rdg enc P w sp t cells sz n) {cells':β → List AV} {sz':β → Nat} (f:α → β) (h1:∀ a,cells' (f a)=cells a) (h2:∀ a,sz' (f a) ≤ sz a) :
 Rdg enc P w sp t cells' sz' n:=fun m hm cs x hx=>by
 obtain ⟨a,h3,h4⟩:=h m hm cs x hx
 exact ⟨f a,by rw [h1];exact h3,Nat.le_trans (h2 a) h4⟩
theorem rdg_int {t:TypeId} (ht:P.underlying t=some (.int .i64)) (n:Nat):Rdg enc P w sp t (fun i:Int=>[I i]) (fun _=>1) n:=fun m _ cs x hx=>by
 obtain ⟨i,rfl,rfl,_⟩:=DataW.trod_int ht hx
 exact ⟨i,RDs.one (RD.lit rfl),by simp [uptoBulk]⟩
theorem rdg_bool {t:TypeId} (ht:P.underlying t=some .bool) (n:Nat):Rdg enc P w sp t (fun b:Bool=>[B b]) (fun _=>1) n:=fun m _ cs x hx=>by
 obtain ⟨i,rfl,rfl⟩:=DataW.trod_bool ht hx
 exact ⟨i,RDs.one (RD.lit rfl),by simp [uptoBulk]⟩
theorem rdg_str {t:TypeId} (ht:P.underlying t=some .string) (n:Nat):Rdg enc P w sp t (fun s:ByteArray=>[Str s]) (fun s=>s.size + 1) n:=fun m _ cs x hx=>by
 obtain ⟨s,rfl,rfl,_⟩:=DataW.trod_string ht hx
 refine ⟨s,RDs.one (RD.lit J),?_⟩
 have e:s.data.toList.length=s.size:=by rw [Array.length_toList];rfl
 simp only [uptoBulk,e]
 omega
def RX (enc:TypeId × Value → H) (P:Program) (w:World) (sp:Nat → Bool) (m:Nat) (cs:List Value):Nat → List (TypeId × Nat) → List (DataW H × List MemPlace) → Prop
 | _,[],xs=>xs=[]
 | o,(t,n) :: l,xs=>∃ x r,xs=x :: r ∧ DataW.trod enc P w 0 sp true m t ((cs.drop o).take n)=some x ∧ RX enc P w sp m cs (o + n) l r
def fit (P:Program):Nat → List Field → List (TypeId × Nat) → Bool
 | _,[],[]=>true
 | o,f :: F,(t,n) :: l=>f.type == t && f.offset == o && P.cellsOf t == n && fit P (o + n) F l
 | _,_,_=>false
theorem rx_fit {m:Nat} {cs:List Value}:∀ (F:List Field) (l:List (TypeId × Nat)) (o:Nat) (xs:List (DataW H × List MemPlace)),fit P o F l=true → xs.length=F.length →
 (∀ (i:Nat) (f:Field),F[i]?=some f → DataW.trod enc P w 0 sp true m f.type ((cs.drop f.offset).take (P.cellsOf f.type))=xs[i]?) → RX enc P w sp m cs o l xs
 | [],[],o,xs,_,hl,_=>List.length_eq_zero_iff.1 hl
 | [],_ :: _,o,xs,h,_,_=>by simp [fit] at h
 | _ :: _,[],o,xs,h,_,_=>by simp [fit] at h
 | f :: F,(t,n) :: l,o,[],h,hl,_=>by simp at hl
 | f :: F,(t,n) :: l,o,x :: r,h,hl,hx=>by
   simp only [fit,Bool.and_eq_true,beq_iff_eq] at h
   obtain ⟨⟨⟨h1,h2⟩,h3⟩,h4⟩:=h
   refine ⟨x,r,rfl,?_,rx_fit F l (o + n) r h4 (by simpa using hl) fun i f' hf=>by simpa using hx (i + 1) f' (by simpa using hf)⟩
   have:=hx 0 f rfl
   rw [h1,h2,h3] at this
   simpa using this
def wide (l:List (TypeId × Nat)):Nat:=(l.map (·.2)).sum
def RF (enc:TypeId × Value → H) (P:Program) (w:World) (sp:Nat → Bool) (l:List (TypeId × Nat)) {α:Type} (cells:α → List AV) (sz:α → Nat) (n:Nat):Prop :=
 ∀ m,m ≤ n → ∀ cs o xs,RX enc P w sp m cs o l xs → cs.length=o + wide l → ∃ a,RDs w (cells a) (cs.drop o) ∧ sz a ≤ uptoBulkAll (xs.map (·.1))
theorem RF.nil (n:Nat):RF enc P w sp [] (fun _:Unit=>[]) (fun _=>0) n:=fun m _ cs o xs hx hl=>by
 refine ⟨(),?_,Nat.zero_le _⟩
 simp only [wide,List.map_nil,List.sum_nil,Nat.add_zero] at hl
 rw [List.drop_eq_nil_of_le (by omega)]
 exact ⟨rfl,fun j c v h=>(by simp at h)⟩
theorem RF.cons {t:TypeId} {k n:Nat} {l:List (TypeId × Nat)} {α β:Type} {cA:α → List AV} {cB:β → List AV} {sA:α → Nat} {sB:β → Nat} (hA:Rdg enc P w sp t cA sA n) (hB:RF enc P w sp l cB sB n) :
 RF enc P w sp ((t,k) :: l) (fun p:α × β=>cA p.1 ++ cB p.2) (fun p=>sA p.1 + sB p.2) n:=fun m hm cs o xs hx hl=>by
 obtain ⟨x,r,rfl,h1,h2⟩:=hx
 obtain ⟨a,a1,a2⟩:=hA m hm _ _ h1
 obtain ⟨b,b1,b2⟩:=hB m hm cs (o + k) r h2 (by rw [hl];simp [wide];omega)
 refine ⟨(a,b),?_,?_⟩
 ·have:=a1.append b1
  rwa [show List.drop (o + k) cs=List.drop k (List.drop o cs) by rw [List.drop_drop],List.take_append_drop] at this
 simp only [List.map_cons,uptoBulkAll]
 omega
theorem RF.struct {t:TypeId} {l:List (TypeId × Nat)} {n:Nat} {α:Type} {cells:α → List AV} {sz:α → Nat} {fs:Array Field} (ht:P.underlying t=some (.struct fs)) (hf:fit P 0 fs.toList l=true) (hw:P.cellsOf t=wide l)
 (h:RF enc P w sp l cells sz n):Rdg enc P w sp t cells (fun a=>sz a + 1) (n + 1):=fun m hm cs x hx=>by
 obtain ⟨xs,m',rfl,rfl,h1,h2,h3⟩:=DataW.trod_struct ht hx
 obtain ⟨a,a1,a2⟩:=h m' (by omega) cs 0 xs (rx_fit _ _ _ _ hf (by simpa using h2) fun i f hf=>h3 i f (by simpa using hf)) (by rw [h1,hw];omega)
 refine ⟨a,by simpa using a1,?_⟩
 simp only [uptoBulk]
 omega
theorem RF.arr2 {t e:TypeId} {k n:Nat} {α:Type} {cells:α → List AV} {sz:α → Nat} (ht:P.underlying t=some (.array 2 e)) (hk:P.cellsOf e=k) (hw:P.cellsOf t=k + k)
 (h:RF enc P w sp [(e,k),(e,k)] cells sz n):Rdg enc P w sp t cells (fun a=>sz a + 1) (n + 1):=fun m hm cs x hx=>by
 obtain ⟨xs,m',rfl,rfl,h1,h2,h3⟩:=DataW.trod_array ht hx
 rw [hk] at h3
 obtain ⟨a,a1,a2⟩:=h m' (by omega) cs 0 xs (by
  match xs,h2 with
  | [x,y],_ =>
    have e0:=h3 0 (by omega)
    have e1:=h3 1 (by omega)
    refine ⟨x,[y],rfl,by simpa using e0,y,[],rfl,by simpa using e1,rfl⟩) (by rw [h1,hw];simp [wide])
 refine ⟨a,by simpa using a1,?_⟩
 simp only [uptoBulk]
 omega
theorem elems_of {α:Type} {sz:α → Nat} {R:Nat → α → Prop}:∀ (els:List (DataW H × List MemPlace)) (i0:Nat),(∀ i y,els[i]?=some y → ∃ a,R (i0 + i) a ∧ sz a ≤ uptoBulk y.1) →
 ∃ l:List α,l.length=els.length ∧ (∀ i a,l[i]?=some a → R (i0 + i) a) ∧ (l.map sz).sum ≤ uptoBulkAll (els.map (·.1))
 | [],i0,_=>⟨[],rfl,fun i a h=>(by simp at h),Nat.zero_le _⟩
 | y :: els,i0,h=>by
   obtain ⟨a,a1,a2⟩:=h 0 y rfl
   obtain ⟨l,l1,l2,l3⟩:=elems_of (R:=R) els (i0 + 1) fun i z hz=>by
    have:=h (i + 1) z (by simpa using hz)
    rwa [show i0 + (i + 1)=i0 + 1 + i by omega] at this
   refine ⟨a :: l,by simp [l1],?_,?_⟩
   ·intro i b hb
    cases i with
    | zero=>simp at hb;subst hb;exact a1
    | succ i=>have:=l2 i b (by simpa using hb);rwa [show i0 + (i + 1)=i0 + 1 + i by omega]
   simp only [List.map_cons,List.sum_cons,uptoBulkAll]
   omega
theorem cells?_get {base n j:Nat} {a:Addr} {cs:List Value} (h:w.cells? base a n=some cs):cs.length=n ∧ ∀ v,cs[j]?=some v → w.cell? (a.add j)=some v:=by
 unfold World.cells? at h
 split at h
 ·refine ⟨by simpa using mapM_some_length h,fun v hv=>?_⟩
  have hj:j < n:=by
   have:=mapM_some_length h
   simp at this
   rcases Nat.lt_or_ge j n with h' | h'
   ·exact h'
   rw [List.getElem?_eq_none (by omega)] at hv;cases hv
  have:=mapM_some_get h j j (by simp [hj])
  rw [this,hv]
 cases h
theorem add_none {ad:Addr} (hs:ad.spot=none) (n:Nat):ad.add n=⟨ad.block,ad.off + n,none⟩:=by
 unfold Addr.add
 split
 ·rename_i h0
  subst h0
  cases ad
  simp_all
 rfl
theorem laid {α:Type} {cells:α → List AV} {wrap:α → AV} {k:Nat} {ad:Addr} (hwc:∀ a,(wrap a).cells=cells a):∀ (l:List α) (i0:Nat),
 (∀ i a,l[i]?=some a → ∃ cs,w.cells? 0 (ad.add ((i0 + i) * k)) k=some cs ∧ RDs w (cells a) cs) → ∀ j c,(flat (l.map wrap))[j]?=some c → ∃ v r,w.cell? ((ad.add ((i0 + j / k) * k)).add r)=some v ∧ r=j % k ∧ RD w c v
 | [],i0,h,j,c,hj=>by simp [flat] at hj
 | a :: l,i0,h,j,c,hj=>by
   obtain ⟨cs,h1,h2⟩:=h 0 a rfl
   have hlen:(cells a).length=k:=by rw [h2.1];exact (cells?_get (j:=0) h1).1
   simp only [flat,List.map_cons,List.flatMap_cons,hwc] at hj
   by_cases hk:j < k
   ·rw [List.getElem?_append_left (by omega)] at hj
    have hv:cs[j]?=some (cs[j]'(by rw [← h2.1];omega)):=List.getElem?_eq_getElem _
    refine ⟨_,j,?_,(Nat.mod_eq_of_lt hk).symm,h2.2 j c _ hj hv⟩
    rw [Nat.div_eq_of_lt hk]
    exact (cells?_get h1).2 _ hv
   rw [List.getElem?_append_right (by omega),hlen] at hj
   obtain ⟨v,r,e1,e2,e3⟩:=laid hwc l (i0 + 1) (fun i b hb=>by
    have:=h (i + 1) b (by simpa using hb)
    rwa [show i0 + (i + 1)=i0 + 1 + i by omega] at this) (j - k) c hj
   have hk0:0 < k:=by
    rcases Nat.eq_zero_or_pos k with h0 | h0
    ·subst h0
     exfalso
     have key:∀ (l:List α) (i0:Nat),(∀ i a,l[i]?=some a → ∃ cs,w.cells? 0 (ad.add ((i0 + i) * 0)) 0=some cs ∧ RDs w (cells a) cs) → flat (l.map wrap)=[]:=by
      intro l
      induction l with
      | nil=>intro _ _;rfl
      | cons b l ih =>
        intro i0 h
        obtain ⟨cs,h1,h2⟩:=h 0 b rfl
        have:=(cells?_get (j:=0) h1).1
        have hb:cells b=[]:=List.length_eq_zero_iff.1 (by rw [h2.1,this])
        simp only [flat,List.map_cons,List.flatMap_cons,hwc,hb,List.nil_append]
        exact ih (i0 + 1) fun i c hc=>by
         have:=h (i + 1) c (by simpa using hc)
         simpa using this
     have hn:flat (l.map wrap)=[]:=key l (i0 + 1) fun i b hb=>by
      have:=h (i + 1) b (by simpa using hb)
      simpa using this
     simp only [flat] at hn
     rw [hn] at hj
     simp at hj
    exact h0
   have hd:j / k=(j - k) / k + 1:=Nat.div_eq_sub_div hk0 (by omega)
   have hm:j % k=(j - k) % k:=Nat.mod_eq_sub_mod (by omega)
   refine ⟨v,r,?_,by rw [hm];exact e2,e3⟩
   rw [hd,show i0 + ((j - k) / k + 1)=i0 + 1 + (j - k) / k by omega]
   exact e1
theorem add_add (a:Addr) (m n:Nat):(a.add m).add n=a.add (m + n):=by
 unfold Addr.add
 split
 ·rename_i h0;subst h0;simp
 split
 ·rename_i h1;subst h1;simp_all
 rename_i h0 h1
 rw [if_neg (by omega)]
 simp [Nat.add_assoc]
theorem Rdg.slice {t e:TypeId} {k n:Nat} {α:Type} {cells:α → List AV} {sz:α → Nat} (wrap:α → AV) (ht:P.underlying t=some (.slice e)) (hk:P.cellsOf e=k) (hk0:0 < k) (hwc:∀ a,(wrap a).cells=cells a)
 (h:Rdg enc P w sp e cells sz n):Rdg enc P w sp t (fun l:List α=>[AV.slice .none k (l.map wrap)]) (fun l=>(l.map sz).sum + 1) (n + 1):=fun m hm cs x hx=>by
 rcases DataW.trod_slice ht hx with ⟨rfl,rfl⟩ | ⟨a,len,cap,elems,rest,m',rfl,rfl,rfl,h1,h2,h3,h4,h5,h6,h7⟩
 ·exact ⟨[],RDs.one (RD.nil k),by simp [uptoBulk]⟩
 rw [hk] at h5
 obtain ⟨l,l1,l2,l3⟩:=elems_of (sz:=sz) (R:=fun i b=>∃ cs,w.cells? 0 (a.add (i * k)) k=some cs ∧ RDs w (cells b) cs) elems 0 fun i y hy=>by
  have hi:i < len:=by
   rcases Nat.lt_or_ge i len with h' | h'
   ·exact h'
   rw [List.getElem?_eq_none (by omega)] at hy;cases hy
  have:=h5 i hi
  rw [hy,Option.bind_eq_some_iff] at this
  obtain ⟨cs,c1,c2⟩:=this
  obtain ⟨b,b1,b2⟩:=h m' (by omega) cs y c2
  exact ⟨b,⟨cs,by simpa using c1,b1⟩,b2⟩
 have hl:=laid (w:=w) (ad:=a) hwc l 0 (fun i b hb=>l2 i b hb)
 have hlen:(l.map wrap).length=len:=by rw [List.length_map,l1,h4]
 refine ⟨l,RDs.one ?_,by simp only [uptoBulk];omega⟩
 have hsp:l.map wrap=[] ∨ a.spot=none:=by
  cases l with
  | nil=>exact .inl rfl
  | cons b l =>
    right
    obtain ⟨cs,c1,c2⟩:=l2 0 b rfl
    obtain ⟨e1,_⟩:=cells?_get (j:=0) c1
    have:=(cells?_get (j:=0) c1).2 (cs[0]'(by omega)) (List.getElem?_eq_getElem _)
    simp only [Nat.zero_add,Nat.zero_mul,Addr.add,if_true] at this
    unfold World.cell? at this
    split at this
    ·cases hs:a.spot with
     | none=>rfl
     | some s=>rw [hs] at this;simp at this
    cases this
 have hcell:∀ j c,(flat (l.map wrap))[j]?=some c → ∃ v,w.cell? ⟨a.block,a.off + j,none⟩=some v ∧ RD w c v:=fun j c hc=>by
  obtain ⟨v,r,e1,e2,e3⟩:=hl j c hc
  refine ⟨v,?_,e3⟩
  rcases hsp with hsp | hsp
  ·rw [hsp] at hc;simp [flat] at hc
  rw [add_add,add_none hsp,Nat.zero_add,e2,Nat.mul_comm,Nat.div_add_mod] at e1
  exact e1
 rw [← hlen]
 refine RD.slice (by rw [hlen];exact h2) hsp (fun x hx=>?_) (fun j=>(w.cell? ⟨a.block,a.off + j,none⟩).getD undef) (fun j c hc=>?_) (fun j c hc=>?_)
 ·obtain ⟨b,hb,rfl⟩:=List.mem_map.1 hx
  obtain ⟨i,hi,rfl⟩:=List.getElem_of_mem hb
  obtain ⟨cs,c1,c2⟩:=l2 i l[i] (by simp [hi])
  rw [hwc,c2.1]
  exact (cells?_get (j:=0) c1).1
 ·obtain ⟨v,e1,e2⟩:=hcell j c hc
  rw [e1];rfl
 obtain ⟨v,e1,e2⟩:=hcell j c hc
 rw [e1];exact e2
end
end Go.Sim
namespace Go.Sim
open Go Go.ChangeShapes Go.WideShapes
def sg0 (g:Nat) (m:Int):Sg:=⟨fun _=>none,0,fun _=>false,0,fun b o=>if b=g ∧ o=0 then some (.lit (.int .i64 m)) else none,fun _=>none,0⟩
theorem wi0 {w:World} {g:Nat} {m:Int} (hm:w.cell? ⟨g,0,none⟩=some (.int .i64 m)):WI (ghost0 w) (sg0 g m) w:=by
 refine ⟨?_,fun b o c h=>trivial,fun id o h=>(by cases h),fun id b b' h=>(by cases h),fun id b h=>(by cases h),fun g h=>(by cases h),fun g x h=>(by cases h),fun b h=>absurd J h,?_,fun g cs h=>(by cases h),fun g x h=>(by cases h),fun b (h:false=true)=>Bool.noConfusion h⟩
 ·rintro b o c ⟨v,h1,h2⟩
  exact ⟨⟨v,h1,h2.vr.1⟩,h2.vr.2⟩
 intro b o c h
 simp only [sg0] at h
 split at h
 ·rename_i hb
  obtain ⟨rfl,rfl⟩:=hb
  cases h
  exact ⟨_,hm,RD.lit rfl⟩
 cases h
theorem base0 (w:World):Base (ghost0 w):=⟨fun _=>rfl,fun b i h=>(by cases h),fun b t e h=>(by cases h)⟩
structure Still (W W':World):Prop where
 os:W'.os=W.os
 output:W'.output=W.output
 size:W.heap.size ≤ W'.heap.size
 heap:∀ b,b < W.heap.size → W'.heap[b]?=W.heap[b]?
theorem still_of_pres {w w':World} {G':Gh} (h:Pres w (ghost0 w) G' w'):Still w w':=⟨h.os,h.output,h.size,fun b hb=>(h.free b hb rfl).1⟩
theorem calls_true {P:Program} {p:Pg} (hP:PgOK P p) {f:Nat} {args:List AV} {g:Nat} {m:Int} {w:World} {vs:List Value}
 (h:HC p f args (sg0 g m) (fun r _=>r=[B true])) (hm:w.cell? ⟨g,0,none⟩=some (.int .i64 m)) (hv:VRs (ghost0 w) args vs) (hn:AV.nts args=true) :
 Calls P f vs.toArray w fun e w'=>e=.returned (.bool true) ∧ Still w w':=by
 obtain ⟨res,s',h1,rfl⟩:=h
 obtain ⟨n,h1⟩:=callL_iff.1 h1
 refine ((callN_ok hP n).1 f args _ _ _ h1 (ghost0 w) w vs (wi0 hm) (base0 w) hv hn).2.mono ?_
 rintro e w' ⟨l,G',rfl,h2,h3,h4,h5,h6⟩
 simp only [VRs] at h4
 obtain ⟨v,r,rfl,h4,rfl⟩:=h4
 unfold VR at h4
 obtain ⟨rfl,_⟩:=h4
 exact ⟨rfl,still_of_pres h6⟩
def sgE:Sg:=⟨fun _=>none,0,fun _=>false,0,fun _ _=>none,fun _=>none,0⟩
theorem wiE {w:World}:WI (ghost0 w) sgE w:=by
 refine ⟨?_,fun b o c h=>trivial,fun id o h=>(by cases h),fun id b b' h=>(by cases h),fun id b h=>(by cases h),fun g h=>(by cases h),fun g x h=>(by cases h),fun b h=>absurd J h,fun b o c h=>(by cases h),fun g cs h=>(by cases h),fun g x h=>(by cases h),fun b (h:false=true)=>Bool.noConfusion h⟩
 rintro b o c ⟨v,h1,h2⟩
 exact ⟨⟨v,h1,h2.vr.1⟩,h2.vr.2⟩
theorem calls_trueE {P:Program} {p:Pg} (hP:PgOK P p) {f:Nat} {args:List AV} {w:World} {vs:List Value}
 (h:HC p f args sgE (fun r _=>r=[B true])) (hv:VRs (ghost0 w) args vs) (hn:AV.nts args=true) :
 Calls P f vs.toArray w fun e w'=>e=.returned (.bool true) ∧ Still w w':=by
 obtain ⟨res,s',h1,rfl⟩:=h
 obtain ⟨n,h1⟩:=callL_iff.1 h1
 refine ((callN_ok hP n).1 f args _ _ _ h1 (ghost0 w) w vs wiE (base0 w) hv hn).2.mono ?_
 rintro e w' ⟨l,G',rfl,h2,h3,h4,h5,h6⟩
 simp only [VRs] at h4
 obtain ⟨v,r,rfl,h4,rfl⟩:=h4
 unfold VR at h4
 obtain ⟨rfl,_⟩:=h4
 exact ⟨rfl,still_of_pres h6⟩
section
variable {H:Type} {enc:TypeId × Value → H} {P:Program}
theorem Still.at {W W':World} (h:Still W W') {q:MemPlace} (hq:q.block < W.heap.size):W.sameAt W' q:=by
 cases q with
 | cell b o =>
   show W'.cell? _=W.cell? _
   unfold World.cell?
   rw [h.heap b hq]
 | map b=>exact h.heap b hq
theorem Still.kept {W W':World} (h:Still W W') (may:MemPlace → Prop):W.keptBut W' may:=by
 refine ⟨h.os,h.output,fun i hi=>?_⟩
 rw [h.heap i hi]
 cases hx:W.heap[i]? with
 | none=>rfl
 | some o =>
   cases o with
   | cells c t fr=>exact ⟨rfl,rfl,rfl,fun _ _=>rfl⟩
   | map es clock=>exact .inr ⟨rfl,rfl⟩
   | _=>rfl
theorem trodAll_stays {W W':World} {sp:Nat → Bool} (hl:laidOutB P=true) (hm:mapsRowed P=true) (hsz:∀ t e,t < P.types.size → P.underlying t=some (.slice e) → 0 < P.cellsOf e) :
 ∀ {ts:List TypeId} {vs:List Value} {ds:List (DataW H)} {p:List MemPlace},(∀ t ∈ ts,t < P.types.size) → DataW.TrodAll enc P W 0 (fun _=>true) true ts vs ds p → (∀ q ∈ p,W.sameAt W' q) → (∀ q ∈ p,sp q.block=true) →
  DataW.TrodAll enc P W' 0 sp true ts vs ds p
 | [],[],[],p,_,h,_,_=>h
 | t :: ts,v :: vs,d :: ds,p,ht,h,hs,hq=>by
   obtain ⟨a,b,⟨n,h1⟩,h2,rfl⟩:=h
   exact ⟨a,b,⟨n,DataW.trod_stays (kids_rows hl hm) (fun a b=>hsz _ _ a b) (fun h=>by cases h) (ht t (List.mem_cons_self ..)) h1 (fun q x=>hs q (List.mem_append_left _ x)) fun q x=>hq q (List.mem_append_left _ x)⟩,
    trodAll_stays hl hm hsz (fun u hu=>ht u (List.mem_cons_of_mem _ hu)) h2 (fun q x=>hs q (List.mem_append_right _ x)) fun q x=>hq q (List.mem_append_right _ x),rfl⟩
 | [],[],_ :: _,_,_,h,_,_=>by cases h
 | [],_ :: _,_,_,_,h,_,_=>by cases h
 | _ :: _,[],_,_,_,h,_,_=>by cases h
 | _ :: _,_ :: _,[],_,_,h,_,_=>by cases h
theorem post_true {f:Func} {s:ChangeSpec} {apart fresh handsOn again:Bool} {W W':World} {args:Array Value} {ds gs:List (DataW H)} {before:List MemPlace} {tb:TypeId}
 (hl:laidOutB P=true) (hm:mapsRowed P=true) (hsz:∀ t e,t < P.types.size → P.underlying t=some (.slice e) → 0 < P.cellsOf e) (hts:∀ t ∈ f.params.toList,t < P.types.size)
 (hr:f.resultTypes=#[tb]) (hb:P.underlying tb=some .bool) (hvars:s.vars=[]) (hfn:(s.fn H (ds ++ gs)).results=[.lit (.bool true)] ∧ (s.fn H (ds ++ gs)).args=ds ∧ (s.fn H (ds ++ gs)).vars=[])
 (hW:DataW.Whole enc P f.params.toList s.vars apart W args.toList ds gs before) (hst:Still W W'):s.post enc P f apart fresh handsOn again W args (.bool true) W':=by
 obtain ⟨h1,h2,h3⟩:=hfn
 have hlt:=hW.lt
 have hW':=hW
 obtain ⟨p,q,hA,hV,rfl,hz,hnd⟩:=hW'
 rw [hvars] at hV
 obtain ⟨rfl,rfl⟩:=trodVars_none hV
 rw [List.append_nil] at hz hnd hW hlt
 have hres:∀ (b:Nat) (sp:Nat → Bool) (hd:Bool),DataW.TrodAll enc P W' b sp hd f.resultTypes.toList ((Value.bool true).resultList f.resultTypes.size) [.lit (.bool true)] []:=by
  intro b sp hd
  rw [hr]
  exact ⟨[],[],⟨1,by simp [DataW.trod,Value.cells,hb]⟩,rfl,rfl⟩
 have hargs:∀ sp:Nat → Bool,(∀ x ∈ p,sp x.block=true) → DataW.TrodAll enc P W' 0 sp true f.params.toList args.toList ds p:=fun sp hs =>
  trodAll_stays hl hm hsz hts hA (fun x hx=>hst.at (hlt x hx)) hs
 refine ⟨ds,[],p,[],p,[],hW,by rw [h1];exact hres _ _ _,by rw [h2];exact hargs _ fun x hx=>by simpa using hlt x hx,by rw [h3,hvars];exact rfl,hst.kept _,fun _=>⟨?_,?_⟩⟩
 ·intro j t r ht hv
  rw [hr] at ht hv
  obtain rfl:j=0:=by
   cases j with
   | zero=>rfl
   | succ j=>simp at ht
  simp at ht
  subst ht
  simp [Value.resultList] at hv
  subst hv
  exact Go.RowKit.okWide_bool_mk hb true
 refine ⟨_,[],p,⟨[] ++ p,[],trodAll_append (hargs _ fun _ _=>rfl) (hres 0 _ true),by rw [hvars];exact rfl,by simp,?_,hnd⟩,fun x hx _=>hx⟩
 intro b off hx
 have e:=hz b off hx
 unfold World.frozen? at e ⊢
 rw [hst.heap b (hlt _ hx)]
 exact e
theorem step_shaped {a:Assume} {C:Checked} {os:Os} {f:FuncId} {fn:Func} {s:OpenSpec} {k:(H:Type) → List (DataW H) → Bool} (hk:s.cond=some k) {F:Stop.Interp} {conds:List PathCond} {apart fresh handsOn again:Bool}
 (own:ownKnob C.prog.godebug=none) (started:os.Started) (noInit:C.prog.inits.idxOf? f=none) (hfn:C.prog.funcs[f]?=some fn)
 (witness:∃ (w:World) (tape:Tape) (i:Input),w.os=os ∧ (w.forCall tape i).Shaped C.prog ∧ i.vars=[] ∧ Input.okWide C.prog (w.forCall tape i) .any w.heap.size f i ∧
   s.pre6 enc C.prog fn conds apart (w.forCall tape i).memory i.args ∧ a.holds C.prog (lone (Frame.enter C.prog f i.args .normal) [] (w.forCall tape i)))
 (contract:∀ (W:World) (base:Nat) (args:Array Value) (ds gs:List (DataW H)) (before:List MemPlace),W.ShapedOpen C.prog →
   (∀ (j:Nat) t v,fn.params[j]?=some t → args[j]?=some v → Value.okWide C.prog W .any base t v) →
   DataW.Whole enc C.prog fn.params.toList s.vars apart W args.toList ds gs before → k H (ds ++ gs)=true →
   Calls C.prog f args W fun e W'=>∃ v,e=.returned v ∧ (s.at F).post enc C.prog fn apart fresh handsOn again W args v W') :
 ReturnsInHanded a C os f .any (s.pre6 enc C.prog fn conds apart) ((s.at F).post enc C.prog fn apart fresh handsOn again):=by
 refine returnsInHanded_of_calls own started noInit witness fun w tape i _ hsh _ hok hpre _=>?_
 obtain ⟨_,_,_,fn',hfn',_,_,_,_,hval⟩:=hok
 obtain rfl:fn'=fn:=Option.some.inj (hfn'.symm.trans hfn)
 obtain ⟨ds,gs,before,hw,_,hkk⟩:=(OpenSpec.pre_some hk conds apart _ _).1 hpre.1
 refine (contract (w.forCall tape i) w.heap.size i.args ds gs before hsh hval (DataW.Whole.of_heap (w':=w.forCall tape i) (by rfl) hw) hkk).mono ?_
 rintro e W' ⟨v,rfl,hp⟩
 exact ChangeSpec.post_blind hp
end
end Go.Sim
namespace Go.Sim.Kd
open Go Go.Sim
theorem sum_one {α:Type} (l:List α):(l.map fun _=>1).sum=l.length:=by induction l with
 | nil=>rfl
 | cons a l ih=>simp only [List.map_cons,List.sum_cons,ih,List.length_cons];omega
theorem szL_sum {α:Type} (f:α → Nat) (l:List α):szL f l=(l.map f).sum:=by induction l with
 | nil=>rfl
 | cons a l ih=>simp only [szL,List.map_cons,List.sum_cons,ih]
theorem szNs_sum (l:List Node):szNs l=(l.map Node.sz).sum:=by induction l with
 | nil=>rfl
 | cons a l ih=>simp only [szNs,List.map_cons,List.sum_cons,ih]
theorem szBs_sum (l:List Br):szBs l=(l.map Br.sz).sum:=by induction l with
 | nil=>rfl
 | cons a l ih=>simp only [szBs,List.map_cons,List.sum_cons,ih]
section
variable {H:Type} {enc:TypeId × Value → H} {w:World} {sp:Nat → Bool}
theorem rdInt (n:Nat):Rdg enc Go.Proofs.Try.prog w sp 3 (fun i:Int=>[I i]) (fun _=>1) n:=rdg_int Go.Proofs.Try.underlying3 n
theorem rdBool (n:Nat):Rdg enc Go.Proofs.Try.prog w sp 4 (fun b:Bool=>[B b]) (fun _=>1) n:=rdg_bool Go.Proofs.Try.underlying4 n
theorem rdStr (n:Nat):Rdg enc Go.Proofs.Try.prog w sp 9 (fun s:ByteArray=>[Str s]) (fun s=>s.size + 1) n:=rdg_str Go.Proofs.Try.underlying9 n
theorem rdInts (n:Nat):Rdg enc Go.Proofs.Try.prog w sp 26 (fun l:List Int=>[ints l]) (fun l=>l.length + 1) n :=
 ((Rdg.slice (k:=1) I Go.Proofs.Try.underlying26 (by kernel_rfl) (by decide) (fun _=>rfl) (rdInt n)).to id (fun _=>rfl) fun l=>by rw [sum_one];exact Nat.le_refl _).less (Nat.le_succ n)
theorem rdBools (n:Nat):Rdg enc Go.Proofs.Try.prog w sp 76 (fun l:List Bool=>[bools l]) (fun l=>l.length + 1) n :=
 ((Rdg.slice (k:=1) B Go.Proofs.Try.underlying76 (by kernel_rfl) (by decide) (fun _=>rfl) (rdBool n)).to id (fun _=>rfl) fun l=>by rw [sum_one];exact Nat.le_refl _).less (Nat.le_succ n)
theorem rdArg (n:Nat):Rdg enc Go.Proofs.Try.prog w sp 86 (fun a:Arg=>[I a.ty,B a.co]) Arg.sz n :=
 ((RF.struct Go.Proofs.Try.underlying86 (by kernel_rfl) (by kernel_rfl) (RF.cons (k:=1) (rdInt n) (RF.cons (k:=1) (rdBool n) (RF.nil n)))).to (fun p=>⟨p.1,p.2.1⟩) (fun _=>rfl) fun _=>by simp only [Arg.sz];omega).less (Nat.le_succ n)
theorem rdArgs (n:Nat):Rdg enc Go.Proofs.Try.prog w sp 44 (fun l:List Arg=>[encArgs l]) (fun l=>l.length + 1) n :=
 ((Rdg.slice (k:=2) Arg.enc Go.Proofs.Try.underlying44 (by kernel_rfl) (by decide) (fun _=>rfl) (rdArg n)).to id (fun _=>rfl) fun l=>by rw [show l.map Arg.sz=l.map (fun _=>1) from rfl,sum_one];exact Nat.le_refl _).less (Nat.le_succ n)
theorem rdXtor (n:Nat):Rdg enc Go.Proofs.Try.prog w sp 49 (fun x:Xtor=>[Str x.name,encArgs x.args]) Xtor.sz n :=
 ((RF.struct Go.Proofs.Try.underlying49 (by kernel_rfl) (by kernel_rfl) (RF.cons (k:=1) (rdStr n) (RF.cons (k:=1) (rdArgs n) (RF.nil n)))).to (fun p=>⟨p.1,p.2.1⟩) (fun _=>rfl) fun _=>by simp only [Xtor.sz];omega).less (Nat.le_succ n)
theorem rdXtors (n:Nat):Rdg enc Go.Proofs.Try.prog w sp 50 (fun l:List Xtor=>[SL 2 (l.map Xtor.enc)]) (fun l=>szL Xtor.sz l + 1) n :=
 ((Rdg.slice (k:=2) Xtor.enc Go.Proofs.Try.underlying50 (by kernel_rfl) (by decide) (fun _=>rfl) (rdXtor n)).to id (fun _=>rfl) fun l=>by rw [szL_sum];exact Nat.le_refl _).less (Nat.le_succ n)
theorem rdDecl (n:Nat):Rdg enc Go.Proofs.Try.prog w sp 52 (fun d:Decl=>[Str d.name,B d.codata,SL 2 (d.xtors.map Xtor.enc)]) Decl.sz n :=
 ((RF.struct Go.Proofs.Try.underlying52 (by kernel_rfl) (by kernel_rfl) (RF.cons (k:=1) (rdStr n) (RF.cons (k:=1) (rdBool n) (RF.cons (k:=1) (rdXtors n) (RF.nil n))))).to (fun p=>⟨p.1,p.2.1,p.2.2.1⟩) (fun _=>rfl) fun _=>by simp only [Decl.sz];omega).less (Nat.le_succ n)
theorem rdDecls (n:Nat):Rdg enc Go.Proofs.Try.prog w sp 22 (fun l:List Decl=>[SL 3 (l.map Decl.enc)]) (fun l=>szL Decl.sz l + 1) n :=
 ((Rdg.slice (k:=3) Decl.enc Go.Proofs.Try.underlying22 (by kernel_rfl) (by decide) (fun _=>rfl) (rdDecl n)).to id (fun _=>rfl) fun l=>by rw [szL_sum];exact Nat.le_refl _).less (Nat.le_succ n)
theorem rdBr {n:Nat} (h:Rdg enc Go.Proofs.Try.prog w sp 31 Node.cs Node.sz n):Rdg enc Go.Proofs.Try.prog w sp 78 (fun b:Br=>ints b.vars :: bools b.co :: b.body.cs) Br.sz n :=
 ((RF.struct Go.Proofs.Try.underlying78 (by kernel_rfl) (by kernel_rfl) (RF.cons (k:=1) (rdInts n) (RF.cons (k:=1) (rdBools n) (RF.cons (k:=5) h (RF.nil n))))).to (fun p=>.mk p.1 p.2.1 p.2.2.1)
   (fun p=>by simp [Br.vars,Br.co,Br.body]) fun _=>by simp only [Br.sz];omega).less (Nat.le_succ n)
theorem rdNode:∀ n,Rdg enc Go.Proofs.Try.prog w sp 31 Node.cs Node.sz n
 | 0=>fun m hm cs x hx=>by
   obtain rfl:m=0:=by omega
   simp [DataW.trod] at hx
 | n + 1 =>
   RF.struct Go.Proofs.Try.underlying31 (by kernel_rfl) (by kernel_rfl) (RF.cons (k:=1) (rdInt n) (RF.cons (k:=1) (rdInt n) (RF.cons (k:=1) (rdInt n)
    (RF.cons (k:=1) ((Rdg.slice (k:=5) Node.enc Go.Proofs.Try.underlying28 (by kernel_rfl) (by decide) Node.enc_cells (rdNode n)).less (Nat.le_succ n))
      (RF.cons (k:=1) ((Rdg.slice (k:=7) Br.enc Go.Proofs.Try.underlying29 (by kernel_rfl) (by decide) (fun b=>by rw [Br.enc_eq];rfl) (rdBr (rdNode n))).less (Nat.le_succ n)) (RF.nil n))))))
    |>.to (fun p=>.mk p.1 p.2.1 p.2.2.1 p.2.2.2.1 p.2.2.2.2.1) (fun p=>rfl) fun p=>by simp only [Node.sz,szNs_sum,szBs_sum];omega
theorem rdFun (n:Nat):Rdg enc Go.Proofs.Try.prog w sp 46 (fun f:CFun=>Str f.name :: encArgs f.params :: ints f.vars :: f.body.cs) CFun.sz n :=
 ((RF.struct Go.Proofs.Try.underlying46 (by kernel_rfl) (by kernel_rfl) (RF.cons (k:=1) (rdStr n) (RF.cons (k:=1) (rdArgs n) (RF.cons (k:=1) (rdInts n) (RF.cons (k:=5) (rdNode n) (RF.nil n)))))).to
   (fun p=>⟨p.1,p.2.1,p.2.2.1,p.2.2.2.1⟩) (fun p=>by simp) fun _=>by simp only [CFun.sz];omega).less (Nat.le_succ n)
theorem rdFuns (n:Nat):Rdg enc Go.Proofs.Try.prog w sp 23 (fun l:List CFun=>[SL 8 (l.map CFun.enc)]) (fun l=>szL CFun.sz l + 1) n :=
 ((Rdg.slice (k:=8) CFun.enc Go.Proofs.Try.underlying23 (by kernel_rfl) (by decide) (fun f=>by rw [CFun.enc_eq];rfl) (rdFun n)).to id (fun _=>rfl) fun l=>by rw [szL_sum];exact Nat.le_refl _).less (Nat.le_succ n)
theorem rdCore (n:Nat):Rdg enc Go.Proofs.Try.prog w sp 25 (fun c:Core=>[SL 3 (c.decls.map Decl.enc),SL 8 (c.funs.map CFun.enc)]) Core.sz n :=
 ((RF.struct Go.Proofs.Try.underlying25 (by kernel_rfl) (by kernel_rfl) (RF.cons (k:=1) (rdDecls n) (RF.cons (k:=1) (rdFuns n) (RF.nil n)))).to (fun p=>⟨p.1,p.2.1⟩) (fun _=>rfl) fun _=>by simp only [Core.sz];omega).less (Nat.le_succ n)
theorem rdPair (n:Nat):Rdg enc Go.Proofs.Try.prog w sp 27 (fun p:List Int × List Int=>[ints p.1,ints p.2]) (fun p=>p.1.length + p.2.length) n :=
 ((RF.arr2 (k:=1) Go.Proofs.Try.underlying27 (by kernel_rfl) (by kernel_rfl) (RF.cons (k:=1) (rdInts n) (RF.cons (k:=1) (rdInts n) (RF.nil n)))).to (fun p=>(p.1,p.2.1)) (fun _=>rfl) fun _=>by dsimp only;omega).less (Nat.le_succ n)
end
end Go.Sim.Kd
namespace Go.Sim.Kd
open Go Go.Sim
theorem laid_ok:laidOutB Go.Proofs.Try.prog=true:=by kernel_rfl
theorem maps_ok:mapsRowed Go.Proofs.Try.prog=true:=by kernel_rfl
theorem slices_ok:((List.range Go.Proofs.Try.prog.types.size).all fun t=>match Go.Proofs.Try.prog.underlying t with
 | some (.slice e)=>decide (0 < Go.Proofs.Try.prog.cellsOf e)
 | _=>true)=true:=by kernel_rfl
theorem slices_pos (t e:TypeId) (ht:t < Go.Proofs.Try.prog.types.size) (h:Go.Proofs.Try.prog.underlying t=some (.slice e)):0 < Go.Proofs.Try.prog.cellsOf e:=by
 have:=List.all_eq_true.1 slices_ok t (List.mem_range.2 ht)
 rw [h] at this
 exact of_decide_eq_true this
theorem own_ok:ownKnob Go.Proofs.Try.prog.godebug=none:=by kernel_rfl
theorem qok0 (g:Nat) (m:Int) (h:g=0):QOK (sg0 g m):=by
 subst h
 rfl
theorem vr_agg {W:World} {l:List AV} {cs:Array Value} (h:RDs W l (Value.agg cs).cells.toList):VR (ghost0 W) (.agg l) (.agg cs) ∧ (AV.agg l).nt=true:=by
 obtain ⟨h1,h2,h3⟩:=h.vrs
 refine ⟨?_,by simpa only [AV.nt] using h2⟩
 simp only [VR]
 exact ⟨cs.toList,by simp,h1,h3⟩
theorem vr_one {W:World} {a:AV} {v:Value} (h:RDs W [a] v.cells.toList) (hv:v.cells=#[v]):VR (ghost0 W) a v ∧ a.nt=true:=by
 rw [hv] at h
 have:=h.2 0 a _ rfl rfl
 exact ⟨this.vr.1,this.vr.2.1⟩
theorem bound {H:Type} {l:List (DataW H)} (hk:Go.Proofs.Ytponmhjjmbhocaa.Rows.uptoSmall H l=true):Go.Proofs.Ytponmhjjmbhocaa.Rows.uptoBulkAll l ≤ 1048576:=of_decide_eq_true hk
theorem okWide_arr {P:Program} {w:World} {r:Reach} {base n:Nat} {t e:TypeId} {v:Value} (ht:P.underlying t=some (.array n e)) (h:Value.okWide P w r base t v):∃ cs,v=.agg cs:=by
 unfold Value.okWide at h
 rw [ht] at h
 obtain ⟨cs,h1,_⟩:=h
 exact ⟨cs,h1⟩
theorem nts_cons {a:AV} {l:List AV} (h:a.nt=true) (k:AV.nts l=true):AV.nts (a :: l)=true:=by
 simp only [AV.nts,h,k]
 rfl
end Go.Sim.Kd
namespace Go.Proofs.Ytponmhjjmbhocaa
open Go.ChangeShapes Go.WideShapes Go.Sim Go.Sim.Kd
set_option maxRecDepth 100000 in
theorem subst_args {H:Type} {enc:TypeId × Value → H} (W:World) (base:Nat) (args:Array Value) (ds gs:List (DataW H)) (before:List MemPlace)
 (hval:∀ (j:Nat) t v,Try.f3.params[j]?=some t → args[j]?=some v → Value.okWide Try.prog W .any base t v)
 (hW:DataW.Whole enc Try.prog Try.f3.params.toList Rows.kindSubstSpec.vars false W args.toList ds gs before) (hk:Rows.uptoSmall H (ds ++ gs)=true) :
 gs=[] ∧ (∃ d0 d1 d2 d3 d4 d5 d6,ds=[d0,d1,d2,d3,d4,d5,d6]) ∧ ∃ (c:Core) (xs ys g0 g1:List Int) (nd:Go.Sim.Node) (k:Int) (nv:Go.Sim.Node),c.sz ≤ 2 ^ 40 ∧ xs.length ≤ 2 ^ 40 ∧ ys.length ≤ 2 ^ 40 ∧ nd.sz + nv.sz ≤ 2 ^ 20 ∧
  VRs (ghost0 W) [.agg (Core.cs c),ints xs,ints ys,.agg [ints g0,ints g1],.agg nd.cs,I k,.agg nv.cs] args.toList ∧ AV.nts [.agg (Core.cs c),ints xs,ints ys,.agg [ints g0,ints g1],.agg nd.cs,I k,.agg nv.cs]=true:=by
 obtain ⟨p,q,hA,hV,rfl,hfz,hnd⟩:=hW
 rw [Try.params3] at hA hval
 obtain ⟨rfl,rfl⟩:=trodVars_none hV
 have hb:=bound hk
 obtain ⟨v0,vs0,d0,ds0,p0,q0,hargs,rfl,rfl,⟨n0,h0⟩,r0⟩:=trodAll_cons hA
 obtain ⟨v1,vs1,d1,ds1,p1,q1,rfl,rfl,rfl,⟨n1,h1⟩,r1⟩:=trodAll_cons r0
 obtain ⟨v2,vs2,d2,ds2,p2,q2,rfl,rfl,rfl,⟨n2,h2⟩,r2⟩:=trodAll_cons r1
 obtain ⟨v3,vs3,d3,ds3,p3,q3,rfl,rfl,rfl,⟨n3,h3⟩,r3⟩:=trodAll_cons r2
 obtain ⟨v4,vs4,d4,ds4,p4,q4,rfl,rfl,rfl,⟨n4,h4⟩,r4⟩:=trodAll_cons r3
 obtain ⟨v5,vs5,d5,ds5,p5,q5,rfl,rfl,rfl,⟨n5,h5⟩,r5⟩:=trodAll_cons r4
 obtain ⟨v6,vs6,d6,ds6,p6,q6,rfl,rfl,rfl,⟨n6,h6⟩,r6⟩:=trodAll_cons r5
 obtain ⟨rfl,rfl,rfl⟩:=trodAll_nil r6
 obtain rfl:args=#[v0,v1,v2,v3,v4,v5,v6]:=by cases args;simp_all
 obtain ⟨c,c1,c2⟩:=rdCore n0 n0 (Nat.le_refl _) _ _ h0
 obtain ⟨xs,x1,x2⟩:=rdInts n1 n1 (Nat.le_refl _) _ _ h1
 obtain ⟨ys,y1,y2⟩:=rdInts n2 n2 (Nat.le_refl _) _ _ h2
 obtain ⟨g,g1,g2⟩:=rdPair n3 n3 (Nat.le_refl _) _ _ h3
 obtain ⟨nd,k1,k2⟩:=rdNode n4 n4 (Nat.le_refl _) _ _ h4
 obtain ⟨k,i1,i2⟩:=rdInt n5 n5 (Nat.le_refl _) _ _ h5
 obtain ⟨nv,w1,w2⟩:=rdNode n6 n6 (Nat.le_refl _) _ _ h6
 obtain ⟨cs,rfl,_⟩:=okWide_struct Try.underlying25 (hval 0 25 v0 rfl rfl)
 obtain ⟨a1,b1,l1,rfl⟩:=okWide_slice Try.underlying26 (hval 1 26 v1 rfl rfl)
 obtain ⟨a2,b2,l2,rfl⟩:=okWide_slice Try.underlying26 (hval 2 26 v2 rfl rfl)
 obtain ⟨cs3,rfl⟩:=okWide_arr Try.underlying27 (hval 3 27 v3 rfl rfl)
 obtain ⟨cs4,rfl,_⟩:=okWide_struct Try.underlying31 (hval 4 31 v4 rfl rfl)
 obtain ⟨j5,rfl⟩:=okWide_int Try.underlying3 (hval 5 3 v5 rfl rfl)
 obtain ⟨cs6,rfl,_⟩:=okWide_struct Try.underlying31 (hval 6 31 v6 rfl rfl)
 obtain ⟨e0,f0⟩:=vr_agg c1
 obtain ⟨e1,f1⟩:=vr_one x1 rfl
 obtain ⟨e2,f2⟩:=vr_one y1 rfl
 obtain ⟨e3,f3⟩:=vr_agg g1
 obtain ⟨e4,f4⟩:=vr_agg k1
 obtain ⟨e5,f5⟩:=vr_one i1 rfl
 obtain ⟨e6,f6⟩:=vr_agg w1
 simp only [List.append_nil,Rows.uptoBulkAll] at hb
 dsimp only at c2 x2 y2 g2 k2 w2
 refine ⟨rfl,⟨_,_,_,_,_,_,_,rfl⟩,c,xs,ys,g.1,g.2,nd,k,nv,by omega,by omega,by omega,by omega,?_,?_⟩
 ·simp only [VRs]
  exact ⟨_,_,rfl,e0,_,_,rfl,e1,_,_,rfl,e2,_,_,rfl,e3,_,_,rfl,e4,_,_,rfl,e5,_,_,rfl,e6,rfl⟩
 exact nts_cons f0 (nts_cons f1 (nts_cons f2 (nts_cons f3 (nts_cons f4 (nts_cons f5 (nts_cons f6 rfl))))))
set_option maxRecDepth 100000 in
theorem subst_step (os:Os) (started:os.Started) (H:Type) (enc:TypeId × Value → H) (F:Stop.Interp) :
 ReturnsInHanded {} Try.checked os 3 .any ((Rows.OpenSpec.upto Rows.kindSubstSpec).pre6 enc Try.prog Try.f3 Rows.kindSubstUptoRow.domain false) (((Rows.OpenSpec.upto Rows.kindSubstSpec).at F).post enc Try.prog Try.f3 false true false false):=by
 refine step_shaped (C:=Try.checked) (s:=Rows.OpenSpec.upto Rows.kindSubstSpec) (k:=Rows.uptoSmall) rfl own_ok started (by kernel_rfl) Try.func3
  (OpenSpec.witness (enc:=enc) (C:=Try.checked) (s:=Rows.OpenSpec.upto Rows.kindSubstSpec) (k:=Rows.uptoSmall) rfl false ⟨#[],#[.agg #[.slice none 0 0,.slice none 0 0],.slice none 0 0,.slice none 0 0,.agg #[.slice none 0 0,.slice none 0 0],.agg #[.int .i64 0,.int .i64 0,.int .i64 0,.slice none 0 0,.slice none 0 0],.int .i64 0,.agg #[.int .i64 0,.int .i64 0,.int .i64 0,.slice none 0 0,.slice none 0 0]],[]⟩ 8 (by kernel_rfl) (by kernel_rfl) (by kernel_rfl)
    (x:=([.agg [.nil,.nil],.nil,.nil,.agg [.nil,.nil],.agg [.lit (.int .i64 0),.lit (.int .i64 0),.lit (.int .i64 0),.nil,.nil],.lit (.int .i64 0),.agg [.lit (.int .i64 0),.lit (.int .i64 0),.lit (.int .i64 0),.nil,.nil]],[],[])) (by kernel_rfl) rfl (by kernel_rfl)) ?_
 intro W base args ds gs before hsh hval hW hk
 obtain ⟨m,hm⟩:=maxLen_cell W hsh
 obtain ⟨rfl,⟨d0,d1,d2,d3,d4,d5,d6,rfl⟩,c,xs,ys,g0,g1,nd,k,nv,z0,z1,z2,z3,hv,hn⟩:=subst_args W base args ds gs before hval hW hk
 refine (calls_true pg_ok (KindSubst_c (sg0 _ m) (qok0 _ m J) c xs ys g0 g1 nd k nv z0 z1 z2 z3) hm hv hn).mono ?_
 rintro e W' ⟨rfl,hst⟩
 exact ⟨_,rfl,post_true (tb:=4) laid_ok maps_ok slices_pos (by decide +kernel) rfl Try.underlying4 rfl ⟨rfl,rfl,rfl⟩ hW hst⟩
theorem kindSubst_upto:Rows.KindSubstUptoSaid :=
 OpenClaim.holds_of_cond 3 Try.f3 rfl rfl rfl rfl rfl rfl rfl ⟨rfl,rfl,rfl,rfl,rfl⟩ rfl rfl rfl rfl rfl (by kernel_rfl) Try.func3 (by kernel_rfl)
  (of_decide_eq_true (by kernel_rfl)) (by unfold Func.isWrapper;first | (rw [if_pos (by decide +kernel)];kernel_rfl) | (rw [if_neg (by decide +kernel)];exact ⟨rfl,rfl⟩))
  (fun os started H enc _ F=>subst_step os started H enc F)
end Go.Proofs.Ytponmhjjmbhocaa
