/-
  DualOwnUptoCardSaid is proved: where what comes in is of bulk at most 1048576, the law DualOwn returns true, and what came in reads as it did; the listed variables are tied to the program's text.
-/
import Derived.Test.YtfejjomhjeioaaaGreatDoorPB
import Derived.Test.YtfejjomhjeioaaaGreatDoorRows
import Derived.OpenShut
import Derived.ChangeStays
import Derived.JoinedCond
import Derived.WideShapes
import Derived.RowKit
import Derived.Test.YtfejjomhjeioaaaGreatDoorPG
import Derived.Test.YtfejjomhjeioaaaGreatDoorProg
import Derived.Test.YtfejjomhjeioaaaGreatDoorPE
import Derived.Test.YtfejjomhjeioaaaGreatDoorPF
import Derived.Test.YtfejjomhjeioaaaGreatDoorPL
import Derived.Test.YtfejjomhjeioaaaGreatDoorPK
import Derived.Test.YtfejjomhjeioaaaGreatDoorCards
import Derived.Test.YtfejjomhjeioaaaGreatDoorTie
import Derived.LaidMore
import Derived.Deep.DeepHandedRow
import Derived.Deep.DeepWitnessRowRef
import Derived.Lib.LaidTab
set_option linter.unusedVariables false
set_option linter.unusedSimpArgs false
namespace Go.Sim
open Go
inductive RD (w:World):AV → Value → Prop
 | lit {x:Value} (h:plainV x=true):RD w (.lit x) x
 | nil (sz:Nat):RD w (.slice .none sz []) (.slice none 0 0)
 | slice {sz:Nat} {xs:List AV} {ad:Addr} {cap:Nat} (hl:xs.length ≤ cap) (hs:xs=[] ∨ ad.spot=none) (hc:∀ x ∈ xs,x.cells.length=sz) (f:Nat → Value)
    (hf:∀ j c,(flat xs)[j]?=some c → w.cell? ⟨ad.block,ad.off + j,none⟩=some (f j)) (hr:∀ j c,(flat xs)[j]?=some c → RD w c (f j)) :
    RD w (.slice .none sz xs) (.slice (some ad) xs.length cap)
def ghost0 (w:World):Gh:=⟨fun b o c=>∃ v,w.cell? ⟨b,o,none⟩=some v ∧ RD w c v,fun _=>.free,fun _=>none,fun _=>none,fun _=>none,fun _=>false⟩
theorem RD.vr {w:World} {a:AV} {v:Value} (h:RD w a v):VR (ghost0 w) a v ∧ a.nt=true ∧ a.isCell=true:=by
 cases h with
 | lit h=>exact ⟨by unfold VR;exact ⟨rfl,h⟩,rfl,rfl⟩
 | nil sz=>exact ⟨by simp only [VR];exact ⟨none,0,rfl,Nat.le_refl _,fun x hx=>(by cases hx),rfl,trivial⟩,rfl,rfl⟩
 | slice hl hs hc f hf hr =>
   refine ⟨?_,J,J⟩
   simp only [VR]
   exact ⟨_,_,rfl,hl,hc,⟨hs,fun j c h=>⟨f j,hf j c h,hr j c h⟩⟩,trivial⟩
def RDs (w:World) (aa:List AV) (vs:List Value):Prop:=aa.length=vs.length ∧ ∀ (j:Nat) (c:AV) (v:Value),aa[j]?=some c → vs[j]?=some v → RD w c v
theorem RDs.append {w:World} {aa bs:List AV} {vs ws:List Value} (h:RDs w aa vs) (k:RDs w bs ws):RDs w (aa ++ bs) (vs ++ ws):=by
 refine ⟨by simp [h.1,k.1],fun j c v ha hv=>?_⟩
 by_cases hj:j < aa.length
 ·rw [List.getElem?_append_left hj] at ha
  rw [List.getElem?_append_left (by rw [← h.1];exact hj)] at hv
  exact h.2 j c v ha hv
 rw [List.getElem?_append_right (by omega)] at ha
 rw [List.getElem?_append_right (by rw [← h.1];omega),← h.1] at hv
 exact k.2 _ c v ha hv
theorem RDs.one {w:World} {a:AV} {v:Value} (h:RD w a v):RDs w [a] [v]:=by
 refine ⟨J,fun j c u ha hv=>?_⟩
 cases j with
 | zero=>simp at ha hv;subst ha;subst hv;exact h
 | succ j=>simp at ha
theorem RDs.vrs {w:World} {aa:List AV} {vs:List Value} (h:RDs w aa vs):VRs (ghost0 w) aa vs ∧ AV.nts aa=true ∧ aa.all AV.isCell=true:=by
 refine ⟨VRs_of h.1.symm fun i a v ha hv=>(h.2 i a v ha hv).vr.1,?_,?_⟩
 ·have:∀ (aa:List AV),(∀ a ∈ aa,a.nt=true) → AV.nts aa=true:=by
   intro aa
   induction aa with
   | nil=>intro _;rfl
   | cons a r ih=>intro h;simp only [AV.nts,h a (List.mem_cons_self ..),ih fun b hb=>h b (List.mem_cons_of_mem _ hb)];rfl
  refine this aa fun a ha=>?_
  obtain ⟨i,hi,rfl⟩:=List.getElem_of_mem ha
  exact (h.2 i _ (vs[i]'(by rw [← h.1];exact hi)) (by simp [hi]) (by simp)).vr.2.1
 refine List.all_eq_true.2 fun a ha=>?_
 obtain ⟨i,hi,rfl⟩:=List.getElem_of_mem ha
 exact (h.2 i _ (vs[i]'(by rw [← h.1];exact hi)) (by simp [hi]) (by simp)).vr.2.2
section
variable {H:Type} {enc:TypeId × Value → H} {P:Program} {w:World} {sp:Nat → Bool}
open Go.Proofs.YtfejjomhjeioaaaGreatDoor.Rows (uptoBulk uptoBulkAll)
def Rdg (enc:TypeId × Value → H) (P:Program) (w:World) (sp:Nat → Bool) (t:TypeId) {α:Type} (cells:α → List AV) (sz:α → Nat) (n:Nat):Prop :=
 ∀ m,m ≤ n → ∀ cs x,DataW.trod enc P w 0 sp true m t cs=some x → ∃ a,RDs w (cells a) cs ∧ sz a ≤ uptoBulk x.1
theorem Rdg.less {t:TypeId} {α:Type} {cells:α → List AV} {sz:α → Nat} {n k:Nat} (h:Rdg enc P w sp t cells sz n) (hk:k ≤ n):Rdg enc P w sp t cells sz k :=
 fun m hm cs x hx=>h m (Nat.le_trans hm hk) cs x hx
theorem Rdg.to {t:TypeId} {α β:Type} {cells:α → List AV} {sz:α → Nat} {n:Nat} (h:Rdg enc P w sp t cells sz n) {cells':β → List AV} {sz':β → Nat} (f:α → β) (h1:∀ a,cells' (f a)=cells a) (h2:∀ a,sz' (f a) ≤ sz a) :
 Rdg enc P w sp t cells' sz' n:=fun m hm cs x hx=>by
 obtain ⟨a,h3,h4⟩:=h m hm cs x hx
 exact ⟨f a,by rw [h1];exact h3,Nat.le_trans (h2 a) h4⟩
theorem rdg_int {t:TypeId} (ht:P.underlying t=some (.int .i64)) (n:Nat):Rdg enc P w sp t (fun i:Int=>[I i]) (fun _=>1) n:=fun m _ cs x hx=>by
 obtain ⟨i,rfl,rfl,_⟩:=DataW.trod_int ht hx
 exact ⟨i,RDs.one (RD.lit rfl),by simp [uptoBulk]⟩
theorem rdg_bool {t:TypeId} (ht:P.underlying t=some .bool) (n:Nat):Rdg enc P w sp t (fun b:Bool=>[B b]) (fun _=>1) n:=fun m _ cs x hx=>by
 obtain ⟨i,rfl,rfl⟩:=DataW.trod_bool ht hx
 exact ⟨i,RDs.one (RD.lit rfl),by simp [uptoBulk]⟩
theorem rdg_str {t:TypeId} (ht:P.underlying t=some .string) (n:Nat):Rdg enc P w sp t (fun s:ByteArray=>[Str s]) (fun s=>s.size + 1) n:=fun m _ cs x hx=>by
 obtain ⟨s,rfl,rfl,_⟩:=DataW.trod_string ht hx
 refine ⟨s,RDs.one (RD.lit J),?_⟩
 have e:s.data.toList.length=s.size:=by rw [Array.length_toList];rfl
 simp only [uptoBulk,e]
 omega
def RX (enc:TypeId × Value → H) (P:Program) (w:World) (sp:Nat → Bool) (m:Nat) (cs:List Value):Nat → List (TypeId × Nat) → List (DataW H × List MemPlace) → Prop
 | _,[],xs=>xs=[]
 | o,(t,n) :: l,xs=>∃ x r,xs=x :: r ∧ DataW.trod enc P w 0 sp true m t ((cs.drop o).take n)=some x ∧ RX enc P w sp m cs (o + n) l r
def fit (P:Program):Nat → List Field → List (TypeId × Nat) → Bool
 | _,[],[]=>true
 | o,f :: F,(t,n) :: l=>f.type == t && f.offset == o && P.cellsOf t == n && fit P (o + n) F l
 | _,_,_=>false
theorem rx_fit {m:Nat} {cs:List Value}:∀ (F:List Field) (l:List (TypeId × Nat)) (o:Nat) (xs:List (DataW H × List MemPlace)),fit P o F l=true → xs.length=F.length →
 (∀ (i:Nat) (f:Field),F[i]?=some f → DataW.trod enc P w 0 sp true m f.type ((cs.drop f.offset).take (P.cellsOf f.type))=xs[i]?) → RX enc P w sp m cs o l xs
 | [],[],o,xs,_,hl,_=>List.length_eq_zero_iff.1 hl
 | [],_ :: _,o,xs,h,_,_=>by simp [fit] at h
 | _ :: _,[],o,xs,h,_,_=>by simp [fit] at h
 | f :: F,(t,n) :: l,o,[],h,hl,_=>by simp at hl
 | f :: F,(t,n) :: l,o,x :: r,h,hl,hx=>by
   simp only [fit,Bool.and_eq_true,beq_iff_eq] at h
   obtain ⟨⟨⟨h1,h2⟩,h3⟩,h4⟩:=h
   refine ⟨x,r,rfl,?_,rx_fit F l (o + n) r h4 (by simpa using hl) fun i f' hf=>by simpa using hx (i + 1) f' (by simpa using hf)⟩
   have:=hx 0 f rfl
   rw [h1,h2,h3] at this
   simpa using this
def wide (l:List (TypeId × Nat)):Nat:=(l.map (·.2)).sum
def RF (enc:TypeId × Value → H) (P:Program) (w:World) (sp:Nat → Bool) (l:List (TypeId × Nat)) {α:Type} (cells:α → List AV) (sz:α → Nat) (n:Nat):Prop :=
 ∀ m,m ≤ n → ∀ cs o xs,RX enc P w sp m cs o l xs → cs.length=o + wide l → ∃ a,RDs w (cells a) (cs.drop o) ∧ sz a ≤ uptoBulkAll (xs.map (·.1))
theorem RF.nil (n:Nat):RF enc P w sp [] (fun _:Unit=>[]) (fun _=>0) n:=fun m _ cs o xs hx hl=>by
 refine ⟨(),?_,Nat.zero_le _⟩
 simp only [wide,List.map_nil,List.sum_nil,Nat.add_zero] at hl
 rw [List.drop_eq_nil_of_le (by omega)]
 exact ⟨rfl,fun j c v h=>(by simp at h)⟩
theorem RF.cons {t:TypeId} {k n:Nat} {l:List (TypeId × Nat)} {α β:Type} {cA:α → List AV} {cB:β → List AV} {sA:α → Nat} {sB:β → Nat} (hA:Rdg enc P w sp t cA sA n) (hB:RF enc P w sp l cB sB n) :
 RF enc P w sp ((t,k) :: l) (fun p:α × β=>cA p.1 ++ cB p.2) (fun p=>sA p.1 + sB p.2) n:=fun m hm cs o xs hx hl=>by
 obtain ⟨x,r,rfl,h1,h2⟩:=hx
 obtain ⟨a,a1,a2⟩:=hA m hm _ _ h1
 obtain ⟨b,b1,b2⟩:=hB m hm cs (o + k) r h2 (by rw [hl];simp [wide];omega)
 refine ⟨(a,b),?_,?_⟩
 ·have:=a1.append b1
  rwa [show List.drop (o + k) cs=List.drop k (List.drop o cs) by rw [List.drop_drop],List.take_append_drop] at this
 simp only [List.map_cons,uptoBulkAll]
 omega
theorem RF.struct {t:TypeId} {l:List (TypeId × Nat)} {n:Nat} {α:Type} {cells:α → List AV} {sz:α → Nat} {fs:Array Field} (ht:P.underlying t=some (.struct fs)) (hf:fit P 0 fs.toList l=true) (hw:P.cellsOf t=wide l)
 (h:RF enc P w sp l cells sz n):Rdg enc P w sp t cells (fun a=>sz a + 1) (n + 1):=fun m hm cs x hx=>by
 obtain ⟨xs,m',rfl,rfl,h1,h2,h3⟩:=DataW.trod_struct ht hx
 obtain ⟨a,a1,a2⟩:=h m' (by omega) cs 0 xs (rx_fit _ _ _ _ hf (by simpa using h2) fun i f hf=>h3 i f (by simpa using hf)) (by rw [h1,hw];omega)
 refine ⟨a,by simpa using a1,?_⟩
 simp only [uptoBulk]
 omega
theorem elems_of {α:Type} {sz:α → Nat} {R:Nat → α → Prop}:∀ (els:List (DataW H × List MemPlace)) (i0:Nat),(∀ i y,els[i]?=some y → ∃ a,R (i0 + i) a ∧ sz a ≤ uptoBulk y.1) →
 ∃ l:List α,l.length=els.length ∧ (∀ i a,l[i]?=some a → R (i0 + i) a) ∧ (l.map sz).sum ≤ uptoBulkAll (els.map (·.1))
 | [],i0,_=>⟨[],rfl,fun i a h=>(by simp at h),Nat.zero_le _⟩
 | y :: els,i0,h=>by
   obtain ⟨a,a1,a2⟩:=h 0 y rfl
   obtain ⟨l,l1,l2,l3⟩:=elems_of (R:=R) els (i0 + 1) fun i z hz=>by
    have:=h (i + 1) z (by simpa using hz)
    rwa [show i0 + (i + 1)=i0 + 1 + i by omega] at this
   refine ⟨a :: l,by simp [l1],?_,?_⟩
   ·intro i b hb
    cases i with
    | zero=>simp at hb;subst hb;exact a1
    | succ i=>have:=l2 i b (by simpa using hb);rwa [show i0 + (i + 1)=i0 + 1 + i by omega]
   simp only [List.map_cons,List.sum_cons,uptoBulkAll]
   omega
theorem cells?_get {base n j:Nat} {a:Addr} {cs:List Value} (h:w.cells? base a n=some cs):cs.length=n ∧ ∀ v,cs[j]?=some v → w.cell? (a.add j)=some v:=by
 unfold World.cells? at h
 split at h
 ·refine ⟨by simpa using mapM_some_length h,fun v hv=>?_⟩
  have hj:j < n:=by
   have:=mapM_some_length h
   simp at this
   rcases Nat.lt_or_ge j n with h' | h'
   ·exact h'
   rw [List.getElem?_eq_none (by omega)] at hv;cases hv
  have:=mapM_some_get h j j (by simp [hj])
  rw [this,hv]
 cases h
theorem add_none {ad:Addr} (hs:ad.spot=none) (n:Nat):ad.add n=⟨ad.block,ad.off + n,none⟩:=by
 unfold Addr.add
 split
 ·rename_i h0
  subst h0
  cases ad
  simp_all
 rfl
theorem laid {α:Type} {cells:α → List AV} {wrap:α → AV} {k:Nat} {ad:Addr} (hwc:∀ a,(wrap a).cells=cells a):∀ (l:List α) (i0:Nat),
 (∀ i a,l[i]?=some a → ∃ cs,w.cells? 0 (ad.add ((i0 + i) * k)) k=some cs ∧ RDs w (cells a) cs) → ∀ j c,(flat (l.map wrap))[j]?=some c → ∃ v r,w.cell? ((ad.add ((i0 + j / k) * k)).add r)=some v ∧ r=j % k ∧ RD w c v
 | [],i0,h,j,c,hj=>by simp [flat] at hj
 | a :: l,i0,h,j,c,hj=>by
   obtain ⟨cs,h1,h2⟩:=h 0 a rfl
   have hlen:(cells a).length=k:=by rw [h2.1];exact (cells?_get (j:=0) h1).1
   simp only [flat,List.map_cons,List.flatMap_cons,hwc] at hj
   by_cases hk:j < k
   ·rw [List.getElem?_append_left (by omega)] at hj
    have hv:cs[j]?=some (cs[j]'(by rw [← h2.1];omega)):=List.getElem?_eq_getElem _
    refine ⟨_,j,?_,(Nat.mod_eq_of_lt hk).symm,h2.2 j c _ hj hv⟩
    rw [Nat.div_eq_of_lt hk]
    exact (cells?_get h1).2 _ hv
   rw [List.getElem?_append_right (by omega),hlen] at hj
   obtain ⟨v,r,e1,e2,e3⟩:=laid hwc l (i0 + 1) (fun i b hb=>by
    have:=h (i + 1) b (by simpa using hb)
    rwa [show i0 + (i + 1)=i0 + 1 + i by omega] at this) (j - k) c hj
   have hk0:0 < k:=by
    rcases Nat.eq_zero_or_pos k with h0 | h0
    ·subst h0
     exfalso
     have key:∀ (l:List α) (i0:Nat),(∀ i a,l[i]?=some a → ∃ cs,w.cells? 0 (ad.add ((i0 + i) * 0)) 0=some cs ∧ RDs w (cells a) cs) → flat (l.map wrap)=[]:=by
      intro l
      induction l with
      | nil=>intro _ _;rfl
      | cons b l ih =>
        intro i0 h
        obtain ⟨cs,h1,h2⟩:=h 0 b rfl
        have:=(cells?_get (j:=0) h1).1
        have hb:cells b=[]:=List.length_eq_zero_iff.1 (by rw [h2.1,this])
        simp only [flat,List.map_cons,List.flatMap_cons,hwc,hb,List.nil_append]
        exact ih (i0 + 1) fun i c hc=>by
         have:=h (i + 1) c (by simpa using hc)
         simpa using this
     have hn:flat (l.map wrap)=[]:=key l (i0 + 1) fun i b hb=>by
      have:=h (i + 1) b (by simpa using hb)
      simpa using this
     simp only [flat] at hn
     rw [hn] at hj
     simp at hj
    exact h0
   have hd:j / k=(j - k) / k + 1:=Nat.div_eq_sub_div hk0 (by omega)
   have hm:j % k=(j - k) % k:=Nat.mod_eq_sub_mod (by omega)
   refine ⟨v,r,?_,by rw [hm];exact e2,e3⟩
   rw [hd,show i0 + ((j - k) / k + 1)=i0 + 1 + (j - k) / k by omega]
   exact e1
theorem add_add (a:Addr) (m n:Nat):(a.add m).add n=a.add (m + n):=by
 unfold Addr.add
 split
 ·rename_i h0;subst h0;simp
 split
 ·rename_i h1;subst h1;simp_all
 rename_i h0 h1
 rw [if_neg (by omega)]
 simp [Nat.add_assoc]
theorem Rdg.slice {t e:TypeId} {k n:Nat} {α:Type} {cells:α → List AV} {sz:α → Nat} (wrap:α → AV) (ht:P.underlying t=some (.slice e)) (hk:P.cellsOf e=k) (hk0:0 < k) (hwc:∀ a,(wrap a).cells=cells a)
 (h:Rdg enc P w sp e cells sz n):Rdg enc P w sp t (fun l:List α=>[AV.slice .none k (l.map wrap)]) (fun l=>(l.map sz).sum + 1) (n + 1):=fun m hm cs x hx=>by
 rcases DataW.trod_slice ht hx with ⟨rfl,rfl⟩ | ⟨a,len,cap,elems,rest,m',rfl,rfl,rfl,h1,h2,h3,h4,h5,h6,h7⟩
 ·exact ⟨[],RDs.one (RD.nil k),by simp [uptoBulk]⟩
 rw [hk] at h5
 obtain ⟨l,l1,l2,l3⟩:=elems_of (sz:=sz) (R:=fun i b=>∃ cs,w.cells? 0 (a.add (i * k)) k=some cs ∧ RDs w (cells b) cs) elems 0 fun i y hy=>by
  have hi:i < len:=by
   rcases Nat.lt_or_ge i len with h' | h'
   ·exact h'
   rw [List.getElem?_eq_none (by omega)] at hy;cases hy
  have:=h5 i hi
  rw [hy,Option.bind_eq_some_iff] at this
  obtain ⟨cs,c1,c2⟩:=this
  obtain ⟨b,b1,b2⟩:=h m' (by omega) cs y c2
  exact ⟨b,⟨cs,by simpa using c1,b1⟩,b2⟩
 have hl:=laid (w:=w) (ad:=a) hwc l 0 (fun i b hb=>l2 i b hb)
 have hlen:(l.map wrap).length=len:=by rw [List.length_map,l1,h4]
 refine ⟨l,RDs.one ?_,by simp only [uptoBulk];omega⟩
 have hsp:l.map wrap=[] ∨ a.spot=none:=by
  cases l with
  | nil=>exact .inl rfl
  | cons b l =>
    right
    obtain ⟨cs,c1,c2⟩:=l2 0 b rfl
    obtain ⟨e1,_⟩:=cells?_get (j:=0) c1
    have:=(cells?_get (j:=0) c1).2 (cs[0]'(by omega)) (List.getElem?_eq_getElem _)
    simp only [Nat.zero_add,Nat.zero_mul,Addr.add,if_true] at this
    unfold World.cell? at this
    split at this
    ·cases hs:a.spot with
     | none=>rfl
     | some s=>rw [hs] at this;simp at this
    cases this
 have hcell:∀ j c,(flat (l.map wrap))[j]?=some c → ∃ v,w.cell? ⟨a.block,a.off + j,none⟩=some v ∧ RD w c v:=fun j c hc=>by
  obtain ⟨v,r,e1,e2,e3⟩:=hl j c hc
  refine ⟨v,?_,e3⟩
  rcases hsp with hsp | hsp
  ·rw [hsp] at hc;simp [flat] at hc
  rw [add_add,add_none hsp,Nat.zero_add,e2,Nat.mul_comm,Nat.div_add_mod] at e1
  exact e1
 rw [← hlen]
 refine RD.slice (by rw [hlen];exact h2) hsp (fun x hx=>?_) (fun j=>(w.cell? ⟨a.block,a.off + j,none⟩).getD undef) (fun j c hc=>?_) (fun j c hc=>?_)
 ·obtain ⟨b,hb,rfl⟩:=List.mem_map.1 hx
  obtain ⟨i,hi,rfl⟩:=List.getElem_of_mem hb
  obtain ⟨cs,c1,c2⟩:=l2 i l[i] (by simp [hi])
  rw [hwc,c2.1]
  exact (cells?_get (j:=0) c1).1
 ·obtain ⟨v,e1,e2⟩:=hcell j c hc
  rw [e1];rfl
 obtain ⟨v,e1,e2⟩:=hcell j c hc
 rw [e1];exact e2
end
end Go.Sim
namespace Go.Sim
open Go Go.ChangeShapes Go.WideShapes
theorem base0 (w:World):Base (ghost0 w):=⟨fun _=>rfl,fun b i h=>(by cases h),fun b t e h=>(by cases h)⟩
structure Still (W W':World):Prop where
 os:W'.os=W.os
 output:W'.output=W.output
 size:W.heap.size ≤ W'.heap.size
 heap:∀ b,b < W.heap.size → W'.heap[b]?=W.heap[b]?
theorem still_of_pres {w w':World} {G':Gh} (h:Pres w (ghost0 w) G' w'):Still w w':=⟨h.os,h.output,h.size,fun b hb=>(h.free b hb rfl).1⟩
section
variable {H:Type} {enc:TypeId × Value → H} {P:Program}
theorem Still.at {W W':World} (h:Still W W') {q:MemPlace} (hq:q.block < W.heap.size):W.sameAt W' q:=by
 cases q with
 | cell b o =>
   show W'.cell? _=W.cell? _
   unfold World.cell?
   rw [h.heap b hq]
 | map b=>exact h.heap b hq
theorem Still.kept {W W':World} (h:Still W W') (may:MemPlace → Prop):W.keptBut W' may:=by
 refine ⟨h.os,h.output,fun i hi=>?_⟩
 rw [h.heap i hi]
 cases hx:W.heap[i]? with
 | none=>rfl
 | some o =>
   cases o with
   | cells c t fr=>exact ⟨rfl,rfl,rfl,fun _ _=>rfl⟩
   | map es clock=>exact .inr ⟨rfl,rfl⟩
   | _=>rfl
theorem trodAll_stays {W W':World} {sp:Nat → Bool} (hl:laidOutB P=true) (hm:mapsRowed P=true) (hsz:∀ t e,t < P.types.size → P.underlying t=some (.slice e) → 0 < P.cellsOf e) :
 ∀ {ts:List TypeId} {vs:List Value} {ds:List (DataW H)} {p:List MemPlace},(∀ t ∈ ts,t < P.types.size) → DataW.TrodAll enc P W 0 (fun _=>true) true ts vs ds p → (∀ q ∈ p,W.sameAt W' q) → (∀ q ∈ p,sp q.block=true) →
  DataW.TrodAll enc P W' 0 sp true ts vs ds p
 | [],[],[],p,_,h,_,_=>h
 | t :: ts,v :: vs,d :: ds,p,ht,h,hs,hq=>by
   obtain ⟨a,b,⟨n,h1⟩,h2,rfl⟩:=h
   exact ⟨a,b,⟨n,DataW.trod_stays (kids_rows hl hm) (fun a b=>hsz _ _ a b) (fun h=>by cases h) (ht t (List.mem_cons_self ..)) h1 (fun q x=>hs q (List.mem_append_left _ x)) fun q x=>hq q (List.mem_append_left _ x)⟩,
    trodAll_stays hl hm hsz (fun u hu=>ht u (List.mem_cons_of_mem _ hu)) h2 (fun q x=>hs q (List.mem_append_right _ x)) fun q x=>hq q (List.mem_append_right _ x),rfl⟩
 | [],[],_ :: _,_,_,h,_,_=>by cases h
 | [],_ :: _,_,_,_,h,_,_=>by cases h
 | _ :: _,[],_,_,_,h,_,_=>by cases h
 | _ :: _,_ :: _,[],_,_,h,_,_=>by cases h
theorem post_true {f:Func} {s:ChangeSpec} {apart fresh handsOn again:Bool} {W W':World} {args:Array Value} {ds gs:List (DataW H)} {before:List MemPlace} {tb:TypeId}
 (hl:laidOutB P=true) (hm:mapsRowed P=true) (hsz:∀ t e,t < P.types.size → P.underlying t=some (.slice e) → 0 < P.cellsOf e) (hts:∀ t ∈ f.params.toList,t < P.types.size)
 (hr:f.resultTypes=#[tb]) (hb:P.underlying tb=some .bool) (hvars:s.vars=[]) (hfn:(s.fn H (ds ++ gs)).results=[.lit (.bool true)] ∧ (s.fn H (ds ++ gs)).args=ds ∧ (s.fn H (ds ++ gs)).vars=[])
 (hW:DataW.Whole enc P f.params.toList s.vars apart W args.toList ds gs before) (hst:Still W W'):s.post enc P f apart fresh handsOn again W args (.bool true) W':=by
 obtain ⟨h1,h2,h3⟩:=hfn
 have hlt:=hW.lt
 have hW':=hW
 obtain ⟨p,q,hA,hV,rfl,hz,hnd⟩:=hW'
 rw [hvars] at hV
 obtain ⟨rfl,rfl⟩:=trodVars_none hV
 rw [List.append_nil] at hz hnd hW hlt
 have hres:∀ (b:Nat) (sp:Nat → Bool) (hd:Bool),DataW.TrodAll enc P W' b sp hd f.resultTypes.toList ((Value.bool true).resultList f.resultTypes.size) [.lit (.bool true)] []:=by
  intro b sp hd
  rw [hr]
  exact ⟨[],[],⟨1,by simp [DataW.trod,Value.cells,hb]⟩,rfl,rfl⟩
 have hargs:∀ sp:Nat → Bool,(∀ x ∈ p,sp x.block=true) → DataW.TrodAll enc P W' 0 sp true f.params.toList args.toList ds p:=fun sp hs =>
  trodAll_stays hl hm hsz hts hA (fun x hx=>hst.at (hlt x hx)) hs
 refine ⟨ds,[],p,[],p,[],hW,by rw [h1];exact hres _ _ _,by rw [h2];exact hargs _ fun x hx=>by simpa using hlt x hx,by rw [h3,hvars];exact rfl,hst.kept _,fun _=>⟨?_,?_⟩⟩
 ·intro j t r ht hv
  rw [hr] at ht hv
  obtain rfl:j=0:=by
   cases j with
   | zero=>rfl
   | succ j=>simp at ht
  simp at ht
  subst ht
  simp [Value.resultList] at hv
  subst hv
  exact Go.RowKit.okWide_bool_mk hb true
 refine ⟨_,[],p,⟨[] ++ p,[],trodAll_append (hargs _ fun _ _=>rfl) (hres 0 _ true),by rw [hvars];exact rfl,by simp,?_,hnd⟩,fun x hx _=>hx⟩
 intro b off hx
 have e:=hz b off hx
 unfold World.frozen? at e ⊢
 rw [hst.heap b (hlt _ hx)]
 exact e
end
end Go.Sim
namespace Go.Sim.Kd
open Go Go.Sim
theorem sum_one {α:Type} (l:List α):(l.map fun _=>1).sum=l.length:=by induction l with
 | nil=>rfl
 | cons a l ih=>simp only [List.map_cons,List.sum_cons,ih,List.length_cons];omega
theorem szL_sum {α:Type} (f:α → Nat) (l:List α):szL f l=(l.map f).sum:=by induction l with
 | nil=>rfl
 | cons a l ih=>simp only [szL,List.map_cons,List.sum_cons,ih]
theorem szNs_sum (l:List Node):szNs l=(l.map Node.sz).sum:=by induction l with
 | nil=>rfl
 | cons a l ih=>simp only [szNs,List.map_cons,List.sum_cons,ih]
theorem szBs_sum (l:List Br):szBs l=(l.map Br.sz).sum:=by induction l with
 | nil=>rfl
 | cons a l ih=>simp only [szBs,List.map_cons,List.sum_cons,ih]
section
variable {H:Type} {enc:TypeId × Value → H} {w:World} {sp:Nat → Bool}
theorem rdInt (n:Nat):Rdg enc Go.Proofs.Tryz.prog w sp 3 (fun i:Int=>[I i]) (fun _=>1) n:=rdg_int Go.Proofs.Tryz.underlying3 n
theorem rdBool (n:Nat):Rdg enc Go.Proofs.Tryz.prog w sp 4 (fun b:Bool=>[B b]) (fun _=>1) n:=rdg_bool Go.Proofs.Tryz.underlying4 n
theorem rdStr (n:Nat):Rdg enc Go.Proofs.Tryz.prog w sp 9 (fun s:ByteArray=>[Str s]) (fun s=>s.size + 1) n:=rdg_str Go.Proofs.Tryz.underlying9 n
theorem rdInts (n:Nat):Rdg enc Go.Proofs.Tryz.prog w sp 40 (fun l:List Int=>[ints l]) (fun l=>l.length + 1) n :=
 ((Rdg.slice (k:=1) I Go.Proofs.Tryz.underlying40 (by kernel_rfl) (by decide) (fun _=>rfl) (rdInt n)).to id (fun _=>rfl) fun l=>by rw [sum_one];exact Nat.le_refl _).less (Nat.le_succ n)
theorem rdBools (n:Nat):Rdg enc Go.Proofs.Tryz.prog w sp 99 (fun l:List Bool=>[bools l]) (fun l=>l.length + 1) n :=
 ((Rdg.slice (k:=1) B Go.Proofs.Tryz.underlying99 (by kernel_rfl) (by decide) (fun _=>rfl) (rdBool n)).to id (fun _=>rfl) fun l=>by rw [sum_one];exact Nat.le_refl _).less (Nat.le_succ n)
theorem rdArg (n:Nat):Rdg enc Go.Proofs.Tryz.prog w sp 50 (fun a:Arg=>[I a.ty,B a.co]) Arg.sz n :=
 ((RF.struct Go.Proofs.Tryz.underlying50 (by kernel_rfl) (by kernel_rfl) (RF.cons (k:=1) (rdInt n) (RF.cons (k:=1) (rdBool n) (RF.nil n)))).to (fun p=>⟨p.1,p.2.1⟩) (fun _=>rfl) fun _=>by simp only [Arg.sz];omega).less (Nat.le_succ n)
theorem rdArgs (n:Nat):Rdg enc Go.Proofs.Tryz.prog w sp 39 (fun l:List Arg=>[encArgs l]) (fun l=>l.length + 1) n :=
 ((Rdg.slice (k:=2) Arg.enc Go.Proofs.Tryz.underlying39 (by kernel_rfl) (by decide) (fun _=>rfl) (rdArg n)).to id (fun _=>rfl) fun l=>by rw [show l.map Arg.sz=l.map (fun _=>1) from rfl,sum_one];exact Nat.le_refl _).less (Nat.le_succ n)
theorem rdXtor (n:Nat):Rdg enc Go.Proofs.Tryz.prog w sp 57 (fun x:Xtor=>[Str x.name,encArgs x.args]) Xtor.sz n :=
 ((RF.struct Go.Proofs.Tryz.underlying57 (by kernel_rfl) (by kernel_rfl) (RF.cons (k:=1) (rdStr n) (RF.cons (k:=1) (rdArgs n) (RF.nil n)))).to (fun p=>⟨p.1,p.2.1⟩) (fun _=>rfl) fun _=>by simp only [Xtor.sz];omega).less (Nat.le_succ n)
theorem rdXtors (n:Nat):Rdg enc Go.Proofs.Tryz.prog w sp 52 (fun l:List Xtor=>[SL 2 (l.map Xtor.enc)]) (fun l=>szL Xtor.sz l + 1) n :=
 ((Rdg.slice (k:=2) Xtor.enc Go.Proofs.Tryz.underlying52 (by kernel_rfl) (by decide) (fun _=>rfl) (rdXtor n)).to id (fun _=>rfl) fun l=>by rw [szL_sum];exact Nat.le_refl _).less (Nat.le_succ n)
theorem rdDecl (n:Nat):Rdg enc Go.Proofs.Tryz.prog w sp 54 (fun d:Decl=>[Str d.name,B d.codata,SL 2 (d.xtors.map Xtor.enc)]) Decl.sz n :=
 ((RF.struct Go.Proofs.Tryz.underlying54 (by kernel_rfl) (by kernel_rfl) (RF.cons (k:=1) (rdStr n) (RF.cons (k:=1) (rdBool n) (RF.cons (k:=1) (rdXtors n) (RF.nil n))))).to (fun p=>⟨p.1,p.2.1,p.2.2.1⟩) (fun _=>rfl) fun _=>by simp only [Decl.sz];omega).less (Nat.le_succ n)
theorem rdDecls (n:Nat):Rdg enc Go.Proofs.Tryz.prog w sp 22 (fun l:List Decl=>[SL 3 (l.map Decl.enc)]) (fun l=>szL Decl.sz l + 1) n :=
 ((Rdg.slice (k:=3) Decl.enc Go.Proofs.Tryz.underlying22 (by kernel_rfl) (by decide) (fun _=>rfl) (rdDecl n)).to id (fun _=>rfl) fun l=>by rw [szL_sum];exact Nat.le_refl _).less (Nat.le_succ n)
theorem rdBr {n:Nat} (h:Rdg enc Go.Proofs.Tryz.prog w sp 44 Node.cs Node.sz n):Rdg enc Go.Proofs.Tryz.prog w sp 114 (fun b:Br=>ints b.vars :: bools b.co :: b.body.cs) Br.sz n :=
 ((RF.struct Go.Proofs.Tryz.underlying114 (by kernel_rfl) (by kernel_rfl) (RF.cons (k:=1) (rdInts n) (RF.cons (k:=1) (rdBools n) (RF.cons (k:=5) h (RF.nil n))))).to (fun p=>.mk p.1 p.2.1 p.2.2.1)
   (fun p=>by simp [Br.vars,Br.co,Br.body]) fun _=>by simp only [Br.sz];omega).less (Nat.le_succ n)
theorem rdNode:∀ n,Rdg enc Go.Proofs.Tryz.prog w sp 44 Node.cs Node.sz n
 | 0=>fun m hm cs x hx=>by
   obtain rfl:m=0:=by omega
   simp [DataW.trod] at hx
 | n + 1 =>
   RF.struct Go.Proofs.Tryz.underlying44 (by kernel_rfl) (by kernel_rfl) (RF.cons (k:=1) (rdInt n) (RF.cons (k:=1) (rdInt n) (RF.cons (k:=1) (rdInt n)
    (RF.cons (k:=1) ((Rdg.slice (k:=5) Node.enc Go.Proofs.Tryz.underlying41 (by kernel_rfl) (by decide) Node.enc_cells (rdNode n)).less (Nat.le_succ n))
      (RF.cons (k:=1) ((Rdg.slice (k:=7) Br.enc Go.Proofs.Tryz.underlying42 (by kernel_rfl) (by decide) (fun b=>by rw [Br.enc_eq];rfl) (rdBr (rdNode n))).less (Nat.le_succ n)) (RF.nil n))))))
    |>.to (fun p=>.mk p.1 p.2.1 p.2.2.1 p.2.2.2.1 p.2.2.2.2.1) (fun p=>rfl) fun p=>by simp only [Node.sz,szNs_sum,szBs_sum];omega
theorem rdFun (n:Nat):Rdg enc Go.Proofs.Tryz.prog w sp 46 (fun f:CFun=>Str f.name :: encArgs f.params :: ints f.vars :: f.body.cs) CFun.sz n :=
 ((RF.struct Go.Proofs.Tryz.underlying46 (by kernel_rfl) (by kernel_rfl) (RF.cons (k:=1) (rdStr n) (RF.cons (k:=1) (rdArgs n) (RF.cons (k:=1) (rdInts n) (RF.cons (k:=5) (rdNode n) (RF.nil n)))))).to
   (fun p=>⟨p.1,p.2.1,p.2.2.1,p.2.2.2.1⟩) (fun p=>by simp) fun _=>by simp only [CFun.sz];omega).less (Nat.le_succ n)
theorem rdFuns (n:Nat):Rdg enc Go.Proofs.Tryz.prog w sp 23 (fun l:List CFun=>[SL 8 (l.map CFun.enc)]) (fun l=>szL CFun.sz l + 1) n :=
 ((Rdg.slice (k:=8) CFun.enc Go.Proofs.Tryz.underlying23 (by kernel_rfl) (by decide) (fun f=>by rw [CFun.enc_eq];rfl) (rdFun n)).to id (fun _=>rfl) fun l=>by rw [szL_sum];exact Nat.le_refl _).less (Nat.le_succ n)
theorem rdCore (n:Nat):Rdg enc Go.Proofs.Tryz.prog w sp 25 (fun c:Core=>[SL 3 (c.decls.map Decl.enc),SL 8 (c.funs.map CFun.enc)]) Core.sz n :=
 ((RF.struct Go.Proofs.Tryz.underlying25 (by kernel_rfl) (by kernel_rfl) (RF.cons (k:=1) (rdDecls n) (RF.cons (k:=1) (rdFuns n) (RF.nil n)))).to (fun p=>⟨p.1,p.2.1⟩) (fun _=>rfl) fun _=>by simp only [Core.sz];omega).less (Nat.le_succ n)
end
end Go.Sim.Kd
namespace Go.Sim.Kd
open Go Go.Sim Go.Proofs
theorem maxLen_cell (w:World) (h:w.ShapedOpen Go.Proofs.Tryz.prog):∃ m,w.cell? ⟨2,0,none⟩=some (.int .i64 m):=Du.maxLen_cell w h
theorem contains_ok:OvOK Go.Proofs.Tryz.prog N105_ containsOv:=by
 have h:=Du.contains_ok
 have e:containsOv=Du.containsOv:=rfl
 rw [e]
 exact h
theorem cloneI_ok:OvOK Go.Proofs.Tryz.prog N29_ (cloneTOv 1 8):=cloneT_ok Du.mix_ok Du.cloneI_ok (by kernel_rfl)
theorem dualsA_eq:Du.dualsA=dualsL.map I:=rfl
theorem dualsIn_at {s:Sg} (h:dualsIn s=true) {o:Nat} {c:AV} (hc:Du.dualsA[o]?=some c):s.Q 0 o=some c ∧ pureA c=true:=by
 rw [dualsA_eq,List.getElem?_map] at hc
 obtain ⟨x,hx,rfl⟩:=Option.map_eq_some_iff.1 hc
 have h2:=List.all_eq_true.1 h (x,o) (List.mk_mem_zipIdx_iff_getElem?.2 hx)
 simp only [isI] at h2
 split at h2
 ·rename_i m e
  rw [e,of_decide_eq_true h2]
  exact ⟨rfl,rfl⟩
 cases h2
theorem awake_ok:OvOK Go.Proofs.Tryz.prog N7_ awakeOv:=by
 refine pureOv_ok (p:=Du.p) Du.pg_ok (A:=[]) (R:=[.lit (.bool true)]) rfl rfl (cnd:=fun s=>hasInt (s.Q 2 0) && dualsIn s) fun s hs=>?_
 rw [Bool.and_eq_true] at hs
 obtain ⟨hm,hd⟩:=hs
 have hm:∃ m,s.Q 2 0=some (.lit (.int .i64 m)):=by
  unfold hasInt at hm
  split at hm
  ·rename_i m hQ;exact ⟨m,hQ⟩
  cases hm
 obtain ⟨m,hm⟩:=hm
 obtain ⟨s1,h1⟩:=xrun_res (Du.xp_ok m) Du.awake_run
 refine ⟨Du.qm m,s1,fun b o c hc=>?_,h1⟩
 unfold Du.qm at hc
 split at hc
 ·rename_i hb
  cases hc
  rw [hb.1,hb.2]
  exact ⟨hm,rfl⟩
 split at hc
 ·rename_i hb
  rw [hb]
  exact dualsIn_at hd hc
 cases hc
theorem pg_ok:PgOK Go.Proofs.Tryz.prog p:=by
 refine ⟨Du.mix_ok,?_,?_⟩
 ·intro f fn h
  have h':fnOf f=some fn:=h
  unfold fnOf at h'
  obtain ⟨x,hx,rfl⟩:=Option.map_eq_some_iff.1 h'
  have h1:=List.find?_some hx
  have h2:=List.mem_of_find?_eq_some hx
  have e:x.1=f:=by simpa using h1
  rw [← e]
  exact .inl (List.all_eq_true.1 all_ok x h2)
 intro f g h
 have h':ov f=some g:=h
 unfold ov at h'
 split at h'
 ·rename_i e;subst e;cases h';exact contains_ok
 split at h'
 ·rename_i e;subst e;cases h';exact cloneI_ok
 split at h'
 ·rename_i e;subst e;cases h';exact awake_ok
 cases h'
end Go.Sim.Kd
namespace Go.Sim.Kd
open Go Go.Sim
theorem laid_ok:laidOutB Go.Proofs.Tryz.prog=true:=by kernel_rfl
theorem maps_ok:mapsRowed Go.Proofs.Tryz.prog=true:=by kernel_rfl
theorem slices_ok:((List.range Go.Proofs.Tryz.prog.types.size).all fun t=>match Go.Proofs.Tryz.prog.underlying t with
 | some (.slice e)=>decide (0 < Go.Proofs.Tryz.prog.cellsOf e)
 | _=>true)=true:=by kernel_rfl
theorem slices_pos (t e:TypeId) (ht:t < Go.Proofs.Tryz.prog.types.size) (h:Go.Proofs.Tryz.prog.underlying t=some (.slice e)):0 < Go.Proofs.Tryz.prog.cellsOf e:=by
 have:=List.all_eq_true.1 slices_ok t (List.mem_range.2 ht)
 rw [h] at this
 exact of_decide_eq_true this
theorem own_ok:ownKnob Go.Proofs.Tryz.prog.godebug=none:=by kernel_rfl
def sgD (m:Int):Sg:=sgQ (Du.qm m)
theorem qokD (m:Int):QOK (sgD m):=rfl
theorem dqD (m:Int):DQ (sgD m):=by
 show dualsIn (sgD m)=true
 rfl
def DualsAt (w:World):Prop:=∀ (o:Nat) (n:Int),dualsL[o]?=some n → w.cell? ⟨0,o,none⟩=some (.int .i64 n)
theorem wiD {w:World} {m:Int} (hm:w.cell? ⟨2,0,none⟩=some (.int .i64 m)) (hd:DualsAt w):WI (ghost0 w) (sgD m) w:=by
 refine ⟨?_,fun b o c h=>trivial,fun id o h=>(by cases h),fun id b b' h=>(by cases h),fun id b h=>(by cases h),fun g h=>(by cases h),fun g x h=>(by cases h),fun b h=>absurd J h,?_,fun g cs h=>(by cases h),fun g x h=>(by cases h),fun b (h:false=true)=>Bool.noConfusion h⟩
 ·rintro b o c ⟨v,h1,h2⟩
  exact ⟨⟨v,h1,h2.vr.1⟩,h2.vr.2⟩
 intro b o c h0
 have hq:Du.qm m b o=some c:=h0
 clear h0
 unfold Du.qm at hq
 split at hq
 ·rename_i hb
  obtain ⟨rfl,rfl⟩:=hb
  cases hq
  exact ⟨_,hm,RD.lit rfl⟩
 split at hq
 ·rename_i hb
  subst hb
  rw [dualsA_eq,List.getElem?_map] at hq
  obtain ⟨n,hn,rfl⟩:=Option.map_eq_some_iff.1 hq
  exact ⟨_,hd o n hn,RD.lit rfl⟩
 cases hq
theorem calls_trueD {f:Nat} {args:List AV} {m:Int} {w:World} {vs:List Value}
 (h:HC p f args (sgD m) (fun r s'=>r=[B true] ∧ Ext (sgD m) s')) (hm:w.cell? ⟨2,0,none⟩=some (.int .i64 m)) (hd:DualsAt w) (hv:VRs (ghost0 w) args vs) (hn:AV.nts args=true) :
 Calls Go.Proofs.Tryz.prog f vs.toArray w fun e w'=>e=.returned (.bool true) ∧ Still w w':=by
 obtain ⟨res,s',h1,rfl,_⟩:=h
 obtain ⟨n,h1⟩:=callL_iff.1 h1
 refine ((callN_ok pg_ok n).1 f args _ _ _ h1 (ghost0 w) w vs (wiD hm hd) (base0 w) hv hn).2.mono ?_
 rintro e w' ⟨l,G',rfl,h2,h3,h4,h5,h6⟩
 simp only [VRs] at h4
 obtain ⟨v,r,rfl,h4,rfl⟩:=h4
 unfold VR at h4
 obtain ⟨rfl,_⟩:=h4
 exact ⟨rfl,still_of_pres h6⟩
theorem vr_agg {W:World} {l:List AV} {cs:Array Value} (h:RDs W l (Value.agg cs).cells.toList):VR (ghost0 W) (.agg l) (.agg cs) ∧ (AV.agg l).nt=true:=by
 obtain ⟨h1,h2,h3⟩:=h.vrs
 refine ⟨?_,by simpa only [AV.nt] using h2⟩
 simp only [VR]
 exact ⟨cs.toList,by simp,h1,h3⟩
theorem bound {H:Type} {l:List (DataW H)} (hk:Go.Proofs.YtfejjomhjeioaaaGreatDoor.Rows.uptoSmall H l=true):Go.Proofs.YtfejjomhjeioaaaGreatDoor.Rows.uptoBulkAll l ≤ 1048576:=of_decide_eq_true hk
end Go.Sim.Kd
namespace Go.Proofs.YtfejjomhjeioaaaGreatDoor
open Go.ChangeShapes Go.WideShapes Go.ChangeAt Go.RowKit Go.Sim Go.Sim.Kd
theorem gDuals:Tryz.prog.globalNamed "chiasmus/dual.duals" = some 0:=by kernel_rfl
set_option maxRecDepth 100000 in
theorem core_args {H:Type} {enc:TypeId × Value → H} (f:Func) (s:ChangeSpec) (hf:f.params=#[25]) (hs:s.vars=[]) (W:World) (base:Nat) (args:Array Value) (ds gs:List (DataW H)) (before:List MemPlace)
 (hval:∀ (j:Nat) t v,f.params[j]?=some t → args[j]?=some v → Value.okWide Tryz.prog W .any base t v)
 (hW:DataW.Whole enc Tryz.prog f.params.toList s.vars false W args.toList ds gs before) (hk:Rows.uptoSmall H (ds ++ gs)=true) :
 gs=[] ∧ (∃ d,ds=[d]) ∧ ∃ c:Core,c.sz ≤ 2 ^ 30 ∧ VRs (ghost0 W) [.agg (Core.cs c)] args.toList ∧ AV.nts [.agg (Core.cs c)]=true:=by
 obtain ⟨p,q,hA,hV,rfl,hfz,hnd⟩:=hW
 rw [hf] at hA hval
 rw [hs] at hV
 obtain ⟨rfl,rfl⟩:=trodVars_none hV
 have hb:=bound hk
 obtain ⟨v0,vs0,d0,ds0,p0,q0,hargs,rfl,rfl,⟨n,h0⟩,r0⟩:=trodAll_cons hA
 obtain ⟨rfl,rfl,rfl⟩:=trodAll_nil r0
 obtain rfl:args=#[v0]:=by cases args;simp_all
 obtain ⟨c,c1,c2⟩:=rdCore n n (Nat.le_refl _) _ _ h0
 obtain ⟨cs,rfl,_⟩:=okWide_struct Tryz.underlying25 (hval 0 25 v0 rfl rfl)
 obtain ⟨e1,e2⟩:=vr_agg c1
 simp only [List.append_nil,Rows.uptoBulkAll] at hb
 dsimp only at c2
 refine ⟨rfl,⟨_,rfl⟩,c,by omega,?_,?_⟩
 ·simp only [VRs]
  exact ⟨_,[],rfl,e1,rfl⟩
 simp only [AV.nts,Bool.and_true]
 exact e2
noncomputable def startW (os:Os):World:=World.doorLaid Tryz.prog 400 os
def arg0:Array Value:=#[.agg #[.slice none 0 0,.slice none 0 0]]
theorem start_refs (os:Os):((startW os).forCall (fun _ _=>0) ⟨#[],arg0,[]⟩).variablesRefB Tryz.checked.prog=true:=by kernel_rfl
theorem start_heap (os:Os):(((startW os).forCall (fun _ _=>0) ⟨#[],arg0,[]⟩).heap.toList.drop Tryz.checked.prog.globals.size).take ((begin Tryz.checked.prog (fun _ _=>0) default).world.heap.size - Tryz.checked.prog.globals.size) =
 (begin Tryz.checked.prog (fun _ _=>0) default).world.heap.toList.drop Tryz.checked.prog.globals.size:=by kernel_rfl
end Go.Proofs.YtfejjomhjeioaaaGreatDoor
namespace Go.Proofs.YtfejjomhjeioaaaGreatDoor
open Go.ChangeShapes Go.WideShapes Go.ChangeAt Go.RowKit Go.Sim Go.Sim.Kd
theorem duals_atF {W:World} (h:laidMetH Tryz.prog Rows.dualOwnUptoRow.laid W):DualsAt W:=by
 rw [MakeChecks.laidMetH_plain _ _ _ (by kernel_rfl)] at h
 obtain ⟨ps,⟨_,_,_,_,_,_,_,_,_,_,⟨_,_,_,_,_,_,_,_,_,_,⟨_,_,_,_,_,_,_,_,_,_,⟨_,_,_,_,_,_,_,_,_,_,⟨_,_,_,_,_,_,_,_,_,_,⟨_,_,_,_,_,_,_,_,_,_,⟨g,t,cs,fuel,p,q,hg,ht,hv,hd,_,_⟩,_⟩,_⟩,_⟩,_⟩,_⟩,_⟩,_⟩:=h
 obtain rfl:=Option.some.inj (gDuals.symm.trans hg)
 have e:(Tryz.prog.globals[0]?).map (·.type)=some 109:=by kernel_rfl
 obtain rfl:=Option.some.inj (e.symm.trans ht)
 have hc:=Lib.cells_of_tab (zs:=dualsL) Tryz.underlying109 Tryz.underlying3 (by kernel_rfl) (by kernel_rfl) hd
 intro o n hn
 have:=World.var?_cell gDuals hv o
 rw [← Array.getElem?_toList,hc,Lgm,hn] at this
 exact this.symm ▸ rfl
theorem start_metF (os:Os):laidMetH Tryz.prog Rows.dualOwnUptoRow.laid ((startW os).forCall (fun _ _=>0) ⟨#[],arg0,[]⟩).memory :=
 laidMetH_of_parts3 (fuel:=8) (laidMet_of_run' 8 (by kernel_rfl) (by kernel_rfl)) (by kernel_rfl) (by kernel_rfl)
theorem ownR_reads (os:Os) {H:Type} (enc:TypeId × Value → H):∃ places,DataW.whole enc Tryz.prog ((startW os).forCall (fun _ _=>0) ⟨#[],arg0,[]⟩).memory Tryz.f4.params.toList Rows.dualOwnSpec.vars false arg0.toList 8=some ([.agg [.nil,.nil]],[],places) :=
 ⟨[],by kernel_rfl⟩
set_option maxRecDepth 100000 in
theorem ownR_step (os:Os) (started:os.Started) (H:Type) (enc:TypeId × Value → H) (F:Stop.Interp) :
 ReturnsInHanded {} Tryz.checked os 4 .any ((Rows.OpenSpec.upto Rows.dualOwnSpec).preRow enc Tryz.prog Tryz.f4 Rows.dualOwnUptoRow.domain false Rows.dualOwnUptoRow.laid) (((Rows.OpenSpec.upto Rows.dualOwnSpec).at F).post enc Tryz.prog Tryz.f4 false true false false):=by
 obtain ⟨places,hx⟩:=ownR_reads os enc
 refine returnsInHanded_of_row (C:=Tryz.checked) (s:=Rows.OpenSpec.upto Rows.dualOwnSpec) own_ok started (by kernel_rfl) Tryz.func4
  (witness_row_atRef (enc:=enc) (C:=Tryz.checked) false (startW os) arg0 rfl (start_refs os) (start_heap os) (by kernel_rfl)
    (OpenSpec.preRow_of_cond 8 hx (by kernel_rfl) (fun k hk=>by cases hk;kernel_rfl) (by kernel_rfl) (start_metF os))) ?_
 intro W base args ds gs before hval hW _ hcond _ hL hsh _
 obtain ⟨m,hm⟩:=maxLen_cell W hsh
 obtain ⟨rfl,⟨d,rfl⟩,c,hz,hv,hn⟩:=core_args Tryz.f4 Rows.dualOwnSpec Tryz.params4 rfl W base args ds gs before hval hW (hcond _ rfl)
 refine (calls_trueD (DualOwn_c (sgD m) (qokD m) (dqD m) c hz (SzD.of hz)) hm (duals_atF hL) hv hn).mono ?_
 rintro e W' ⟨rfl,hst⟩
 exact ⟨_,rfl,post_true (tb:=4) laid_ok maps_ok slices_pos (by decide +kernel) rfl Tryz.underlying4 rfl ⟨rfl,rfl,rfl⟩ hW hst⟩
theorem dualOwn_said:Rows.DualOwnUptoSaid :=
 OpenClaim.holds_of_cond 4 Tryz.f4 rfl rfl rfl rfl rfl rfl rfl ⟨rfl,rfl,rfl,rfl,rfl⟩ rfl rfl rfl rfl rfl (by kernel_rfl) Tryz.func4 (by kernel_rfl)
  (Odt (by kernel_rfl)) (by unfold Func.isWrapper;first | (rw [if_pos (by decide +kernel)];kernel_rfl) | (rw [if_neg (by decide +kernel)];exact ⟨rfl,rfl⟩))
  (fun os started H enc _ F=>by rw [OpenClaim.pre_eq_preRow];exact ownR_step os started H enc F)
theorem dualOwn_card:Rows.DualOwnUptoCardSaid :=
 Claim7.holds_tied_plain_at .later [] _ _ _ _ dualOwn_said (fun _ h=>by cases h) (by kernel_rfl) (fun _ h=>by cases h) dualOwnUpto_row_tie rfl ⟨rfl,rfl⟩ (by kernel_rfl) rfl
  (fun f fn hf hfn=>by
    obtain rfl:f=4:=Option.some.inj ((show Tryz.prog.funcNamed "chiasmus/chiasmuslaw11.DualOwn" = some 4 by kernel_rfl).symm.trans hf) |>.symm
    obtain rfl:fn=Tryz.f4:=(Option.some.inj (Tryz.func4.symm.trans hfn)).symm
    exact ⟨by kernel_rfl,fun j t ht=>by
     rw [Tryz.params4] at ht
     have h3:t=25:=by
      rcases j with _ | j
      ·simpa using ht.symm
      simp at ht
     subst h3
     exact (show Tryz.prog.wantsStandIn 25=false by kernel_rfl)⟩)
  (by kernel_rfl)
end Go.Proofs.YtfejjomhjeioaaaGreatDoor
