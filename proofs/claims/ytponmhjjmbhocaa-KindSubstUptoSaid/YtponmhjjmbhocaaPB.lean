/-
  A part of a proof: see the last text of this claim.
-/
import Derived.Test.YtponmhjjmbhocaaPA
import Derived.Laws.MakeOwn
import Derived.Lib.ConvBytes
import Derived.Laws.StructEq
set_option linter.unusedVariables false
set_option linter.unusedSimpArgs false
namespace Go.Sim
open Go
section
variable {P:Program} {w0:World} {G0 G:Gh} {fr:Fr} {a:Act} {w:World}
theorem flat_append (xs ys:List AV):flat (xs ++ ys)=flat xs ++ flat ys:=by simp [flat]
theorem flat_drop {sz:Nat}:∀ (xs:List AV) (l:Nat),(∀ x ∈ xs,x.cells.length=sz) → flat (xs.drop l)=(flat xs).drop (l * sz)
 | xs,0,h=>by simp
 | [],l + 1,h=>by simp [flat]
 | x :: xs,l + 1,h=>by
   have hx:=h x (List.mem_cons_self ..)
   simp only [List.drop_succ_cons]
   rw [flat_drop xs l fun y hy=>h y (List.mem_cons_of_mem _ hy)]
   simp only [flat,List.flatMap_cons]
   have e1:x.cells.drop ((l + 1) * sz)=[]:=List.drop_eq_nil_of_le (by rw [hx,Nat.succ_mul];omega)
   rw [List.drop_append,e1,hx,show (l + 1) * sz - sz=l * sz from by rw [Nat.succ_mul];omega]
   rfl
theorem flat_take {sz:Nat}:∀ (xs:List AV) (l:Nat),(∀ x ∈ xs,x.cells.length=sz) → flat (xs.take l)=(flat xs).take (l * sz)
 | xs,0,h=>by simp [flat]
 | [],l + 1,h=>by simp [flat]
 | x :: xs,l + 1,h=>by
   have hx:=h x (List.mem_cons_self ..)
   simp only [List.take_succ_cons]
   have ih:=flat_take xs l fun y hy=>h y (List.mem_cons_of_mem _ hy)
   simp only [flat,List.flatMap_cons] at ih ⊢
   rw [ih,List.take_append,hx,List.take_of_length_le (l:=x.cells) (by rw [hx,Nat.succ_mul];omega),show (l + 1) * sz - sz=l * sz from by rw [Nat.succ_mul];omega]
theorem WI.slice_vals {s:Sg} (h:WI G s w) {xs:List AV} {ad:Addr} {cap:Nat} (hl:lies G xs cap (some ad)) :
 ∃ vs,VRs G (flat xs) vs ∧ (∀ (j:Nat) v,vs[j]?=some v → w.cell? (ad.add j)=some v) ∧ AV.nts (flat xs)=true ∧ (flat xs).all AV.isCell=true:=by
 obtain ⟨b,off,sp⟩:=ad
 obtain ⟨hsp,hk⟩:=hl
 rcases hsp with rfl | hsp
 ·exact ⟨[],by simp only [flat,List.flatMap_nil,VRs],fun j v hv=>by simp at hv,rfl,rfl⟩
 obtain rfl:sp=none:=hsp
 obtain ⟨vs,h1,h2⟩:=vals_of (G:=G) (f:=fun j=>w.cell? ⟨b,off + j,none⟩) (flat xs) fun j c hc=>by
  obtain ⟨⟨v,h1,h2⟩,_⟩:=h.claim _ _ _ (hk j c hc)
  exact ⟨v,h1,h2⟩
 refine ⟨vs,h1,fun j v hv=>by rw [add_plain];exact h2 j v hv,?_,?_⟩
 ·rw [AV.nts_iff]
  intro c hc
  obtain ⟨j,hj⟩:=List.getElem?_of_mem hc
  exact (h.claim _ _ _ (hk j c hj)).2.1
 rw [List.all_eq_true]
 intro c hc
 obtain ⟨j,hj⟩:=List.getElem?_of_mem hc
 exact (h.claim _ _ _ (hk j c hj)).2.2
def mApp (P:Program) (t sz by_:Nat):Bool :=
 match P.underlying t with
 | some (.slice e)=>(match P.info? e with
   | some i=>i.size == sz && i.bytes == by_ && decide (0 < i.bytes) && (match i.zero with
     | some z=>z.cells.size == sz
     | none=>false)
   | none=>false)
 | _=>false
theorem sim_app (h:RR w0 G0 G fr a w) {t ty sz by_:Nat} {s x:AO} {s' x':Operand} (hs:mO s s'=true) (hx:mO x x'=true) (ht:mApp P t sz by_=true) {sv xv:AV} {so xo:Own × List AV} {tv:Option TV} {fr':Fr}
 (e1:evV fr.env s=some sv) (e2:evV fr.env x=some xv) (e3:sliceOf sz sv=some so) (e4:sliceOf sz xv=some xo) (e5:appOf sz by_ fr so.1 so.2 xo.2=some (tv,fr')) :
 ∃ v w',(Builtin.append_ #[t,t] ty #[a.eval s',a.eval x']).run P w=.ok v w' ∧ ∃ G',RR w0 G0 G' fr' a w' ∧ ∀ y,tv=some y → TR G' y v:=by
 obtain ⟨o,xs⟩:=so
 obtain ⟨o2,ys⟩:=xo
 have q1:sv=.slice o sz xs:=by
  cases sv with
  | slice o' sz' xs'=>simp only [sliceOf] at e3;split at e3 <;> simp_all
  | _=>simp [sliceOf] at e3
 have q2:xv=.slice o2 sz ys:=by
  cases xv with
  | slice o' sz' xs'=>simp only [sliceOf] at e4;split at e4 <;> simp_all
  | _=>simp [sliceOf] at e4
 subst q1
 subst q2
 unfold mApp at ht
 split at ht
 ·rename_i e hu
  split at ht
  ·rename_i ie hie
   simp only [Bae,beq_iff_eq,Dte] at ht
   obtain ⟨⟨⟨hsz,hby⟩,hbp⟩,hz⟩:=ht
   subst hsz
   subst hby
   split at hz
   ·rename_i z hz0
    simp only [beq_iff_eq] at hz
    have hS:=h.evV hs e1
    have hX:=h.evV hx e2
    simp only [VR] at hS hX
    obtain ⟨sa,cap,hs1,hs2,hs3,hs4,hs5⟩:=hS
    obtain ⟨xa,xcap,hx1,hx2,hx3,hx4,hx5⟩:=hX
    cases ys with
    | nil =>
      simp only [appOf,Oie,Pie] at e5
      obtain ⟨rfl,rfl⟩:=e5
      refine ⟨_,w,?_,G,h,fun y hy=>by cases hy;show VR G (.slice o ie.size xs) _;simp only [VR];exact ⟨sa,cap,rfl,hs2,hs3,hs4,hs5⟩⟩
      rw [hs1,hx1]
      cases sa <;> cases xa <;> simp [Builtin.append_,run_underlying hu,sizeOf,typeInfo,hie,Builtin.lenOf,hs2,Builtin.firstCells,loadCells,loadCellsFrom,storeCells]
    | cons y ys =>
      simp only [appOf] at e5
      split at e5
      ·rename_i hbound
       simp only [Obe,Oie,Pie] at e5
       obtain ⟨fr1,hmay,rfl,rfl⟩:=e5
       have hxlen:0 < (y :: ys).length:=by simp
       generalize hyy:y :: ys=yy at *
       obtain ⟨xad,rfl⟩:∃ ad,xa=some ad:=by
        cases xa with
        | none=>simp only [lies] at hx4;omega
        | some ad=>exact ⟨ad,rfl⟩
       obtain ⟨news,n1,n2,n3,n4⟩:=h.wi.slice_vals hx4
       have nlen:news.length=yy.length * ie.size:=by rw [VRs_length n1,flat_length hx3]
       have h1:RR w0 G0 G fr1 a w:=by
        cases o with
        | none=>simp [mayApp] at hmay
        | full=>simp only [mayApp,Oie] at hmay;subst hmay;exact h
        | tip t' =>
          simp only [mayApp] at hmay
          split at hmay
          ·simp only [Oie] at hmay;subst hmay
           exact h.less rfl rfl rfl rfl rfl rfl rfl (fun j hj=>by
            simp only at hj
            split at hj
            ·cases hj
            exact hj) (fun _ x=>x)
          cases hmay
        | gt g =>
          simp only [mayApp] at hmay
          split at hmay
          ·simp only [Oie] at hmay;subst hmay
           exact h.less rfl rfl rfl rfl rfl rfl rfl (fun _ x=>x) (fun j hj=>by
            simp only at hj
            split at hj
            ·cases hj
            exact hj)
          cases hmay
       have flen:(flat xs).length=xs.length * ie.size:=flat_length hs3
       have fylen:(flat yy).length=yy.length * ie.size:=flat_length hx3
       have hall:∀ u ∈ xs ++ yy,u.cells.length=ie.size:=fun u hu'=>by
        rcases List.mem_append.1 hu' with hu' | hu'
        ·exact hs3 u hu'
        exact hx3 u hu'
       by_cases hroom:xs.length + yy.length ≤ cap
       ·
        have hright:∃ b off cs,sa=some ⟨b,off,none⟩ ∧ BL w b cs ∧ off + cap * ie.size ≤ cs.length ∧ (∀ q c,G.K b q c → q < off + xs.length * ie.size) ∧ (∀ id,G.ow b ≠ .obj id) ∧ (∀ i,G.ow b ≠ .loc i) ∧
         (∀ t,fr1.lv t=true → ∀ x,G.ow b ≠ .tip t x) ∧ (∀ g,fr1.sg.gl g=true → ∀ x,G.ow b ≠ .gt g x) ∧ G.ow b ≠ .free ∧ (∀ g,G.ow b ≠ .mu g):=by
         cases o with
         | none=>simp [mayApp] at hmay
         | full=>simp only [ownRel] at hs5;omega
         | tip t' =>
           simp only [mayApp] at hmay
           split at hmay
           ·rename_i hlv
            simp only [Oie] at hmay;subst hmay
            obtain ⟨ad,rfl,hT⟩:=hs5
            obtain ⟨b,off,len',cap',sz',cs,r1,r2,r3,r4⟩:=h.tips t' hlv
            rw [hT] at r1
            simp only [Oie,Pie] at r1
            obtain ⟨rfl,rfl,rfl,rfl⟩:=r1
            refine ⟨b,off,cs,rfl,r3,r4,fun q c hq=>by have:=h.wi.kow b q c hq;rw [r2] at this;exact this,fun id e=>(by rw [r2] at e;cases e),fun i e=>(by rw [r2] at e;cases e),?_,fun g _ x e=>(by rw [r2] at e;cases e),by rw [r2];simp,fun g e=>by rw [r2] at e;cases e⟩
            intro t'' ht'' x e
            rw [r2] at e
            cases e
            simp at ht''
           cases hmay
         | gt g =>
           simp only [mayApp] at hmay
           split at hmay
           ·rename_i hlv
            simp only [Oie] at hmay;subst hmay
            obtain ⟨ad,rfl,hT⟩:=hs5
            obtain ⟨b,off,len',cap',sz',cs,r1,r2,r3,r4⟩:=h.wi.gts g hlv
            rw [hT] at r1
            simp only [Oie,Pie] at r1
            obtain ⟨rfl,rfl,rfl,rfl⟩:=r1
            refine ⟨b,off,cs,rfl,r3,r4,fun q c hq=>by have:=h.wi.kow b q c hq;rw [r2] at this;exact this,fun id e=>(by rw [r2] at e;cases e),fun i e=>(by rw [r2] at e;cases e),fun t _ x e=>(by rw [r2] at e;cases e),?_,by rw [r2];simp,fun g e=>by rw [r2] at e;cases e⟩
            intro t'' ht'' x e
            rw [r2] at e
            cases e
            simp at ht''
           cases hmay
        obtain ⟨b,off,cs,rfl,r3,r4,rA,rD1,rD2,rB1,rB2,rF,rD3⟩:=hright
        have hmul:(xs.length + yy.length) * ie.size ≤ cap * ie.size:=Nat.mul_le_mul_right _ hroom
        rw [Nat.add_mul] at hmul
        have nlen':news.length=yy.length * ie.size:=nlen
        obtain ⟨w',g1,g2,g3⟩:=run_storeCells0 (P:=P) (o:=off + xs.length * ie.size) (vs:=news) r3 (by rw [nlen'];omega) (VRs_cellV n1 n4)
        have hcs:off + xs.length * ie.size ≤ cs.length:=by omega
        obtain ⟨G',k1,k2,k3,k4,k5⟩:=h1.retip (b:=b) (e:=off + xs.length * ie.size) rA rD1 rD2 rB1 rB2 (fun hb hf=>rF (h.pres.free b hb hf).2.1) rD3 g2 g3
         (fun q hq=>by rw [g3.cell,r3.cell,List.append_assoc,List.getElem?_append_left (by simp;omega),List.getElem?_take,if_pos hq])
         n1 n3 n4 (fun j v hj=>by
          have hjl:j < news.length:=by
           rcases Nat.lt_or_ge j news.length with h' | h'
           ·exact h'
           rw [List.getElem?_eq_none h'] at hj;cases hj
          rw [List.append_assoc,List.getElem?_append_right (by simp;omega),List.length_take,Nat.min_eq_left hcs,show off + xs.length * ie.size + j - (off + xs.length * ie.size)=j from by omega,List.getElem?_append_left hjl]
          exact hj)
         (off:=off) (len:=xs.length + yy.length) (cap:=cap) (sz:=ie.size) (by rw [fylen,Nat.add_mul];omega) (by simp only [List.length_append,List.length_take,List.length_drop];omega)
        refine ⟨.slice (some ⟨b,off,none⟩) (xs.length + yy.length) cap,w',?_,G',k1,fun q hq=>?_⟩
        ·rw [hs1,hx1]
         have hf:=run_firstCells_some (P:=P) w ie.size yy.length xad yy.length xcap news nlen n2
         simp [Builtin.append_,run_underlying hu,sizeOf,typeInfo,hie,Builtin.lenOf,hroom,hf,add_plain,g1]
        cases hq
        show VR G' (.slice (.tip fr1.nt) ie.size (xs ++ yy)) _
        simp only [VR]
        refine ⟨some ⟨b,off,none⟩,cap,by simp,by simp;exact hroom,hall,⟨.inr rfl,?_⟩,⟨_,rfl,by rw [k4];simp⟩⟩
        intro j c hj
        rw [flat_append] at hj
        by_cases hjl:j < (flat xs).length
        ·rw [List.getElem?_append_left hjl] at hj
         exact k2.K _ _ _ (hs4.2 j c hj)
        rw [List.getElem?_append_right (by omega),flen] at hj
        have:=k5 _ c hj
        rw [show off + xs.length * ie.size + (j - xs.length * ie.size)=off + j from by omega] at this
        exact this
       ·
        have hgrow:cap < xs.length + yy.length:=by omega
        have hfit:Builtin.nextslicecap (xs.length + yy.length) cap * ie.bytes ≤ 281474976710656:=growslice_fits hgrow hbound
        have h63:((xs.length + yy.length:Nat):Int) ≤ 9223372036854775807:=by
         have:(xs.length + yy.length) * 1 ≤ (xs.length + yy.length) * ie.bytes:=Nat.mul_le_mul_left _ hbp
         omega
        have hal:∀ o,w.drew.alloc o={ w with heap:=w.heap.push o,drawn:=w.drawn + 1 }:=fun _=>rfl
        have hgc:=grownCap_ge w (xs.length + yy.length) cap e
        have hold:∃ olds,VRs G (flat xs) olds ∧ AV.nts (flat xs)=true ∧ (flat xs).all AV.isCell=true ∧
         (Builtin.append_ #[t,t] ty #[.slice sa xs.length cap,.slice (some xad) yy.length xcap]).run P w =
           .ok (.slice (some ⟨w.heap.size,0,none⟩) (xs.length + yy.length) (grownCap w (xs.length + yy.length) cap e))
            { w with heap:=w.heap.push (.cells (olds ++ news ++ (Builtin.zeroCells z.cells (grownCap w (xs.length + yy.length) cap e - (xs.length + yy.length))).toList).toArray e),drawn:=w.drawn + 1 }:=by
         cases sa with
         | none =>
           have hc0:cap=0:=hs4
           subst hc0
           have hx0:xs=[]:=List.length_eq_zero_iff.1 (by omega)
           subst hx0
           refine ⟨[],J,J,J,?_⟩
           simp only [List.length_nil,Nat.zero_add] at *
           rw [run_append_nil w t ty e ie z hu hie hz0 xad yy.length xcap news nlen n2 hxlen h63 (by rw [nextslicecap_zero hxlen] at hfit;exact hfit)]
           have e1:∀ (Z:Array Value),news.toArray ++ Z=(([]:List Value) ++ news ++ Z.toList).toArray:=fun Z=>Array.ext' (by simp)
           rw [hal,e1]
         | some ad =>
           obtain ⟨olds,o1,o2,o3,o4⟩:=h.wi.slice_vals hs4
           refine ⟨olds,o1,o3,o4,?_⟩
           rw [run_append_grow w t ty e ie z hu hie hz0 ad xs.length cap olds (by rw [VRs_length o1,flen]) o2 xad yy.length xcap news nlen n2 hgrow h63 hfit]
           have e1:∀ (Z:Array Value),olds.toArray ++ news.toArray ++ Z=(olds ++ news ++ Z.toList).toArray:=fun Z=>Array.ext' (by simp)
           rw [hal,e1]
        obtain ⟨olds,o1,o3,o4,hrun⟩:=hold
        generalize hgcd:grownCap w (xs.length + yy.length) cap e=gc at *
        generalize hzc:(Builtin.zeroCells z.cells (gc - (xs.length + yy.length))).toList=zc at *
        have zlen:zc.length=(gc - (xs.length + yy.length)) * ie.size:=by rw [← hzc,Array.length_toList,size_zeroCells,hz]
        have olen:olds.length=xs.length * ie.size:=by rw [VRs_length o1,flen]
        have hg:Grew w { w with heap:=w.heap.push (.cells (olds ++ news ++ zc).toArray e),drawn:=w.drawn + 1 }:=grew_push w _ _
        have hB:BL { w with heap:=w.heap.push (.cells (olds ++ news ++ zc).toArray e),drawn:=w.drawn + 1 } w.heap.size (olds ++ news ++ zc):=⟨e,push_at w _ _⟩
        obtain ⟨f1,f2⟩:=h1.wi.nofree (Nat.le_refl w.heap.size)
        have hmul:(xs.length + yy.length) * ie.size ≤ gc * ie.size:=Nat.mul_le_mul_right _ hgc
        have htot:(olds ++ news ++ zc).length=gc * ie.size:=by
         simp only [List.length_append,olen,nlen,zlen]
         rw [Nat.sub_mul,← Nat.add_mul]
         omega
        obtain ⟨G',k1,k2,k3,k4,k5⟩:=(h1.grow hg).retip (b:=w.heap.size) (e:=0) (fun q c hq=>absurd hq (f2 _ _)) (fun id e=>by rw [f1] at e;cases e) (fun i e=>by rw [f1] at e;cases e)
         (fun t _ x e=>by rw [f1] at e;cases e) (fun g _ x e=>by rw [f1] at e;cases e) (fun hb=>absurd h.pres.size (by omega)) (fun g e=>by rw [f1] at e;cases e) (Only.refl _ _) hB (fun q hq=>by omega)
         (cs:=flat xs ++ flat yy) (ws:=olds ++ news) (VRs_append o1 n1) (by rw [AV.nts_iff] at o3 n3 ⊢;intro c hc;exact (List.mem_append.1 hc).elim (o3 c) (n3 c)) (by simp only [List.all_append,o4,n4];rfl)
         (fun j v hj=>by
           have hjl:j < (olds ++ news).length:=by
            rcases Nat.lt_or_ge j (olds ++ news).length with h' | h'
            ·exact h'
            rw [List.getElem?_eq_none h'] at hj;cases hj
           rw [Nat.zero_add,List.getElem?_append_left hjl];exact hj)
         (off:=0) (len:=xs.length + yy.length) (cap:=gc) (sz:=ie.size) (by simp only [List.length_append,flen,fylen,Nat.add_mul]) (by rw [htot];omega)
        refine ⟨.slice (some ⟨w.heap.size,0,none⟩) (xs.length + yy.length) gc,_,by rw [hs1,hx1];exact hrun,G',k1,fun q hq=>?_⟩
        cases hq
        show VR G' (.slice (.tip fr1.nt) ie.size (xs ++ yy)) _
        simp only [VR]
        refine ⟨some ⟨w.heap.size,0,none⟩,gc,by simp,by simp;exact hgc,hall,⟨.inr rfl,?_⟩,⟨_,rfl,by rw [k4];simp⟩⟩
        intro j c hj
        rw [flat_append] at hj
        have:=k5 j c hj
        simpa using this
      cases e5
   cases hz
  cases ht
 cases ht
def mOo:Option AO → Option Operand → Bool
 | none,none=>true
 | some x,some y=>mO x y
 | _,_=>false
theorem bound_sim (h:RR w0 G0 G fr a w) {x:Option AO} {y:Option Operand} (hm:mOo x y=true) {d l:Nat} (hb:boundOf fr.env x d=some l) :
 (y.map a.eval=none ∧ x=none ∧ l=d) ∨ ∃ k i,y.map a.eval=some (.int k i) ∧ 0 ≤ i ∧ i.toNat=l:=by
 cases x with
 | none =>
   cases y with
   | none=>simp only [boundOf,Oie] at hb;exact .inl ⟨rfl,rfl,hb.symm⟩
   | some y=>simp [mOo] at hm
 | some x =>
   cases y with
   | none=>simp [mOo] at hm
   | some y =>
     simp only [mOo] at hm
     simp only [boundOf,Obe] at hb
     obtain ⟨v,hv,i,hi,hb⟩:=hb
     split at hb
     ·rename_i h0
      simp only [Oie] at hb
      have hr:=h.evV hm hv
      cases v with
      | lit q =>
        cases q <;> simp only [asN,reduceCtorEq,Oie] at hi
        subst hi
        simp only [VR] at hr
        exact .inr ⟨_,_,by simp only [Option.map_some,hr.1];rfl,h0,hb⟩
      | _=>simp [asN] at hi
     cases hb
theorem sliceBound_ok {k:IntKind} {i:Int} {y l:Nat} {code:BoundsCode} (h0:0 ≤ i) (hl:i.toNat=l) (h1:l ≤ y):(Instr.sliceBound (.int k i) y code).run P w=.ok l w:=by
 have:i ≤ (y:Int):=by omega
 simp [Instr.sliceBound,asIntOf,h0,this,hl]
theorem bounds_ok {sl:Bool} {len cap l h m:Nat} {lo hi mx:Option Value} (hlo:(lo=none ∧ l=0) ∨ ∃ k i,lo=some (.int k i) ∧ 0 ≤ i ∧ i.toNat=l)
 (hhi:(hi=none ∧ h=len) ∨ ∃ k i,hi=some (.int k i) ∧ 0 ≤ i ∧ i.toNat=h) (hmx:(mx=none ∧ m=cap) ∨ (hi ≠ none ∧ ∃ k i,mx=some (.int k i) ∧ 0 ≤ i ∧ i.toNat=m))
 (h1:l ≤ h) (h2:h ≤ m) (h3:m ≤ cap):(Instr.sliceBounds sl len cap lo hi mx).run P w=.ok (l,h,m) w:=by
 rcases hmx with ⟨rfl,rfl⟩ | ⟨hne,k3,i3,rfl,p3,q3⟩
 ·rcases hlo with ⟨rfl,rfl⟩ | ⟨k1,i1,rfl,p1,q1⟩
  ·rcases hhi with ⟨rfl,rfl⟩ | ⟨k2,i2,rfl,p2,q2⟩
   ·simp [Instr.sliceBounds]
   simp [Instr.sliceBounds,sliceBound_ok p2 q2 h2]
  rcases hhi with ⟨rfl,rfl⟩ | ⟨k2,i2,rfl,p2,q2⟩
  ·simp [Instr.sliceBounds,sliceBound_ok p1 q1 h1]
  simp [Instr.sliceBounds,sliceBound_ok p1 q1 h1,sliceBound_ok p2 q2 h2]
 rcases hhi with ⟨rfl,rfl⟩ | ⟨k2,i2,rfl,p2,q2⟩
 ·exact absurd rfl hne
 rcases hlo with ⟨rfl,rfl⟩ | ⟨k1,i1,rfl,p1,q1⟩
 ·simp [Instr.sliceBounds,sliceBound_ok p2 q2 h2,sliceBound_ok p3 q3 h3]
 simp [Instr.sliceBounds,sliceBound_ok p1 q1 h1,sliceBound_ok p2 q2 h2,sliceBound_ok p3 q3 h3]
theorem sl_ms1 {g bl off room l m m' hb sz cap:Nat} (c0:l=0 ∨ l < m) (c1:l ≤ hb) (hmm:m ≤ m') (hm1:hb ≤ m') (hm2:m' ≤ cap) (s2:G.M g=some (bl,room)) (s4:off + cap * sz ≤ room) :
 VR G (.ms g (off + l * sz) (hb - l) sz) (.slice (if m'=l then some ⟨bl,off,none⟩ else (some (⟨bl,off,none⟩:Addr)).map (·.add (l * sz))) (hb - l) (m' - l)):=by
 have hplace:(if m'=l then some ⟨bl,off,none⟩ else (some (⟨bl,off,none⟩:Addr)).map (·.add (l * sz)))=some ⟨bl,off + l * sz,none⟩:=by
  split
  ·rename_i hml
   have hl0:l=0:=by rcases c0 with c0 | c0 <;> omega
   subst hl0
   simp
  simp only [Option.map_some,add_plain]
 simp only [VR]
 refine ⟨bl,room,m' - l,by rw [hplace],s2,by omega,?_⟩
 have e3:off + l * sz + (m' - l) * sz=off + m' * sz:=by
  rw [Nat.add_assoc,← Nat.add_mul,show l + (m' - l)=m' by omega]
 rw [e3]
 exact Nat.le_trans (Nat.add_le_add_left (Nat.mul_le_mul_right _ hm2) _) s4
theorem sim_sl (h:RR w0 G0 G fr a w) {t sz:Nat} {x:AO} {x':Operand} {lo hi mx:Option AO} {lo' hi' mx':Option Operand} (hx:mO x x'=true) (hl:mOo lo lo'=true) (hh:mOo hi hi'=true) (hm:mOo mx mx'=true)
 (hmh:mx.isSome=true → hi.isSome=true) (ht:elemSz P t=some sz) {av v:AV} (e1:evV fr.env x=some av) (e2:slOf sz fr lo hi mx av=some v) :
 ∃ u,(Instr.sliceAt t (a.eval x') (lo'.map a.eval) (hi'.map a.eval) (mx'.map a.eval)).run P w=.ok u w ∧ VR G v u:=by
 have hX:=h.evV hx e1
 cases av with
 | slice o sz' xs =>
   simp only [slOf] at e2
   split at e2
   ·cases e2
   rename_i hsz
   have hsz:sz=sz':=Classical.not_not.1 hsz
   subst hsz
   simp only [Obe] at e2
   obtain ⟨l,b1,hb,b2,m,b3,e2⟩:=e2
   split at e2
   ·rename_i hle
    obtain ⟨c1,c2,c3⟩:=hle
    simp only [Oie] at e2
    subst e2
    simp only [VR] at hX
    obtain ⟨sa,cap,s1,s2,s3,s4,s5⟩:=hX
    unfold elemSz at ht
    split at ht
    ·rename_i e hu
     let m':=if mx=none then cap else m
     have hm':hb ≤ m' ∧ m' ≤ cap:=by
      show hb ≤ (if mx=none then cap else m) ∧ (if mx=none then cap else m) ≤ cap
      split <;> omega
     have hB:(Instr.sliceBounds true xs.length cap (lo'.map a.eval) (hi'.map a.eval) (mx'.map a.eval)).run P w=.ok (l,hb,m') w:=by
      refine bounds_ok ?_ ?_ ?_ c1 hm'.1 hm'.2
      ·rcases bound_sim h hl b1 with ⟨z1,_,z2⟩ | z
       ·exact .inl ⟨z1,z2⟩
       exact .inr z
      ·rcases bound_sim h hh b2 with ⟨z1,_,z2⟩ | z
       ·exact .inl ⟨z1,z2⟩
       exact .inr z
      rcases bound_sim h hm b3 with ⟨z1,z2,z3⟩ | ⟨k,i,z1,z2,z3⟩
      ·exact .inl ⟨z1,if_pos z2⟩
      have hne:mx ≠ none:=by
       intro e;subst e
       cases mx' with
       | none=>simp at z1
       | some q=>simp [mOo] at hm
      refine .inr ⟨?_,k,i,z1,z2,z3.trans (if_neg hne).symm⟩
      have:=hmh (by cases mx <;> simp_all)
      cases hi with
      | none=>simp at this
      | some q=>cases hi' with
        | none=>simp [mOo] at hh
        | some q'=>simp
     refine ⟨.slice (if m'=l then sa else sa.map (·.add (l * sz))) (hb - l) (m' - l),?_,?_⟩
     ·rw [s1]
      simp [Instr.sliceAt,run_underlying hu,Instr.slice,hB,run_szOf ht]
     simp only [VR]
     have hlen:((xs.take hb).drop l).length=hb - l:=by simp;omega
     have hmem:∀ x ∈ (xs.take hb).drop l,x.cells.length=sz:=fun x hx=>s3 x (List.mem_of_mem_take (List.mem_of_mem_drop hx))
     refine ⟨_,m' - l,by rw [hlen],by rw [hlen];omega,hmem,?_,?_⟩
     ·cases sa with
      | none =>
        have hc:cap=0:=s4
        have:m' - l=0:=by omega
        split <;> exact this
      | some ad =>
        obtain ⟨b,off,sp⟩:=ad
        obtain ⟨hsp,hk⟩:=s4
        split
        ·rename_i hml
         have:(xs.take hb).drop l=[]:=List.length_eq_zero_iff.1 (by rw [hlen];omega)
         refine ⟨.inl this,fun j c hj=>?_⟩
         rw [this] at hj
         simp [flat] at hj
        rcases hsp with hsp | hsp
        ·have:(xs.take hb).drop l=[]:=by rw [hsp];simp
         refine ⟨.inl this,fun j c hj=>?_⟩
         rw [this] at hj
         simp [flat] at hj
        obtain rfl:sp=none:=hsp
        simp only [Option.map_some,add_plain]
        refine ⟨.inr J,fun j c hj=>?_⟩
        rw [flat_drop (sz:=sz) _ _ (fun x hx=>s3 x (List.mem_of_mem_take hx)),flat_take (sz:=sz) _ _ s3,List.getElem?_drop,List.getElem?_take] at hj
        split at hj
        ·have:=hk _ c hj
         rw [Nat.add_assoc]
         exact this
        cases hj
     by_cases hfull:mx.isSome=true ∧ m=hb
     ·rw [if_pos hfull]
      show m' - l=((xs.take hb).drop l).length
      rw [hlen]
      have:m'=m:=if_neg (by cases mx <;> simp_all)
      omega
     rw [if_neg hfull]
     trivial
    cases ht
   cases e2
 | ms g off len sz' =>
   simp only [slOf] at e2
   split at e2
   ·cases e2
   rename_i hsz
   have hsz:sz=sz':=Classical.not_not.1 hsz
   subst hsz
   simp only [Obe] at e2
   obtain ⟨l,b1,hb,b2,m,b3,e2⟩:=e2
   split at e2
   ·rename_i hle
    obtain ⟨c1,c2,c3⟩:=hle
    simp only [Oie] at e2
    subst e2
    simp only [VR] at hX
    obtain ⟨bl,room,cap,s1,s2,s3,s4⟩:=hX
    unfold elemSz at ht
    split at ht
    ·rename_i e hu
     let m':=if mx=none then cap else m
     have hm':hb ≤ m' ∧ m' ≤ cap ∧ m ≤ m':=by
      show hb ≤ (if mx=none then cap else m) ∧ (if mx=none then cap else m) ≤ cap ∧ m ≤ (if mx=none then cap else m)
      split <;> omega
     have hB:(Instr.sliceBounds true len cap (lo'.map a.eval) (hi'.map a.eval) (mx'.map a.eval)).run P w=.ok (l,hb,m') w:=by
      refine bounds_ok ?_ ?_ ?_ c1 hm'.1 hm'.2.1
      ·rcases bound_sim h hl b1 with ⟨z1,_,z2⟩ | z
       ·exact .inl ⟨z1,z2⟩
       exact .inr z
      ·rcases bound_sim h hh b2 with ⟨z1,_,z2⟩ | z
       ·exact .inl ⟨z1,z2⟩
       exact .inr z
      rcases bound_sim h hm b3 with ⟨z1,z2,z3⟩ | ⟨k,i,z1,z2,z3⟩
      ·exact .inl ⟨z1,if_pos z2⟩
      have hne:mx ≠ none:=by
       intro e;subst e
       cases mx' with
       | none=>simp at z1
       | some q=>simp [mOo] at hm
      refine .inr ⟨?_,k,i,z1,z2,z3.trans (if_neg hne).symm⟩
      have:=hmh (by cases mx <;> simp_all)
      cases hi with
      | none=>simp at this
      | some q=>cases hi' with
        | none=>simp [mOo] at hh
        | some q'=>simp
     refine ⟨.slice (if m'=l then some ⟨bl,off,none⟩ else (some (⟨bl,off,none⟩:Addr)).map (·.add (l * sz))) (hb - l) (m' - l),?_,?_⟩
     ·rw [s1]
      simp [Instr.sliceAt,run_underlying hu,Instr.slice,hB,run_szOf ht]
     by_cases c0:l=0 ∨ l < m
     ·rw [if_pos c0]
      exact sl_ms1 c0 c1 hm'.2.2 hm'.1 hm'.2.1 s2 s4
     rw [if_neg c0]
     have hl1:hb - l=0:=by omega
     rw [hl1]
     simp only [VR]
     refine ⟨_,m' - l,rfl,Nat.zero_le _,by simp,?_,?_⟩
     ·split <;> exact ⟨.inl rfl,fun j c hj=>by simp [flat] at hj⟩
     by_cases hs:mx.isSome=true
     ·rw [if_pos hs]
      show m' - l=0
      have:m'=m:=if_neg (by cases mx <;> simp_all)
      omega
     rw [if_neg hs]
     trivial
    cases ht
   cases e2
 | _=>simp [slOf] at e2
theorem sim_sls (h:RR w0 G0 G fr a w) {t:Nat} {x:AO} {x':Operand} {lo hi:Option AO} {lo' hi':Option Operand} (hx:mO x x'=true) (hl:mOo lo lo'=true) (hh:mOo hi hi'=true)
 (ht:P.underlying t=some .string) {av v:AV} (e1:evV fr.env x=some av) (e2:slsOf fr lo hi av=some v) :
 ∃ u,(Instr.sliceAt t (a.eval x') (lo'.map a.eval) (hi'.map a.eval) none).run P w=.ok u w ∧ VR G v u:=by
 have hX:=h.evV hx e1
 unfold slsOf at e2
 split at e2
 ·rename_i s
  simp only [Obe] at e2
  obtain ⟨l,b1,hb,b2,e2⟩:=e2
  split at e2
  ·rename_i hle
   simp only [Oie] at e2
   subst e2
   simp only [VR] at hX
   have hB:(Instr.sliceBounds false s.size s.size (lo'.map a.eval) (hi'.map a.eval) none).run P w=.ok (l,hb,s.size) w:=by
    refine bounds_ok ?_ ?_ (.inl ⟨J,J⟩) hle.1 hle.2 (Nat.le_refl _)
    ·rcases bound_sim h hl b1 with ⟨z1,_,z2⟩ | z
     ·exact .inl ⟨z1,z2⟩
     exact .inr z
    rcases bound_sim h hh b2 with ⟨z1,_,z2⟩ | z
    ·exact .inl ⟨z1,z2⟩
    exact .inr z
   refine ⟨.string (s.extract l hb),?_,by unfold VR;exact ⟨rfl,rfl⟩⟩
   rw [hX.1]
   simp [Instr.sliceAt,run_underlying ht,Instr.slice,hB]
  cases e2
 cases e2
end
end Go.Sim
namespace Go.Sim
open Go
section
variable {P:Program} {w0:World} {G0 G:Gh} {fr:Fr} {a:Act} {w w':World}
theorem RR.mkmut (h:RR w0 G0 G fr a w) {b:Nat} {mu':Nat → Option (List AV)} {vs rest:List Value} {cs:List AV}
 (hD1:∀ id,G.ow b ≠ .obj id) (hD2:∀ i,G.ow b ≠ .loc i) (hDt:∀ t e,G.ow b ≠ .tip t e) (hDg:∀ g e,G.ow b ≠ .gt g e) (hk:∀ o c,¬ G.K b o c)
 (hC:b < w0.heap.size → G0.ow b ≠ .free) (ho:Only w w' b) (hB:BL w' b (vs ++ rest)) (hv:VRs G cs vs) (hn:AV.nts cs=true) (hc:cs.all AV.isCell=true)
 (hmu:∀ g cs',mu' g=some cs' → fr.sg.mu g=some cs' ∧ G.ow b ≠ .mu g) :
 ∃ G',RR w0 G0 G' { fr with sg:={ fr.sg with mu:=Sim.upd mu' fr.sg.mn (some cs),mn:=fr.sg.mn + 1 } } a w' ∧ Gle G G' ∧ Tle G G' ∧ G'.M fr.sg.mn=some (b,(vs ++ rest).length):=by
 let G':Gh:={ G with ow:=fun k=>if k=b then .mu fr.sg.mn else G.ow k,M:=Sim.upd G.M fr.sg.mn (some (b,(vs ++ rest).length)) }
 have how:∀ k,k ≠ b → G'.ow k=G.ow k:=fun k hk=>if_neg hk
 have howb:G'.ow b=.mu fr.sg.mn:=if_pos rfl
 have le:Gle G G':=⟨fun _ _ _ x=>x,fun k id hk=>by rw [how k (fun e'=>hD1 id (e' ▸ hk))];exact hk,fun _ _ x=>x,fun g x hx=>by
  show Sim.upd G.M _ _ g=_
  rw [Sim.upd_ne _ _ (by have:=h.wi.mun g x hx;omega)]
  exact hx⟩
 have hT:Tle G G':=fun _ _ x=>x
 have hbs:b < w.heap.size:=by rw [← ho.size];exact hB.lt
 have hcl:∀ k o c,G.K k o c → w'.cell? ⟨k,o,none⟩=w.cell? ⟨k,o,none⟩:=fun k o c hk'=>cell_of_heap (ho.heap k (fun e=>by subst e;exact hk _ _ hk'))
 have hR:∀ {x mk},(∀ e',G.ow b ≠ mk e') → Right G w x mk → Right G' w' x mk:=fun hm r=>r.mono (fun _ e=>e) fun k e' hk'=>by
  have hne:k ≠ b:=fun x=>hm e' (x ▸ hk')
  exact ⟨by rw [how k hne];exact hk',ho.heap k hne⟩
 have back:∀ k x,(∀ g,x ≠ .mu g) → G'.ow k=x → G.ow k=x ∧ k ≠ b:=by
  intro k x hx hk'
  by_cases e:k=b
  ·subst e;rw [howb] at hk';exact absurd hk'.symm (hx _)
  rw [how k e] at hk';exact ⟨hk',e⟩
 refine ⟨G',⟨?_,?_,?_,fun t ht=>hR (hDt t) (h.tips t ht),h.nt,?_,DR_mono le _ _ h.df,?_⟩,le,hT,Sim.upd_same _ _ _⟩
 ·intro i tv hx
  obtain ⟨h1,h2⟩:=h.env i tv hx
  exact ⟨h1,TR_mono le hT (fun i _ _ k hk'=>by rw [how k (fun e'=>hD2 i (e' ▸ hk'))];exact hk') h2⟩
 ·intro i cs' hx
  obtain ⟨b',vs',h1,h2,h3,h4⟩:=h.loc i cs' hx
  have hne:b' ≠ b:=fun e'=>hD2 i (e' ▸ h1)
  exact ⟨b',vs',by rw [how b' hne];exact h1,h2.of_heap (ho.heap b' hne),VRs_mono' le cs' vs' (.inl hT) h3,h4⟩
 ·intro i k k' h1 h2
  exact h.locu i k k' (back k _ (by simp) h1).1 (back k' _ (by simp) h2).1
 ·refine h.wi.upd0 le hcl (fun k o c hk'=>.inl hk') ?_ ?_ ?_ ?_ (fun g hg=>hR (hDg g) (h.wi.gts g hg)) h.wi.gn ?_ ?_ ?_
  ·intro k o c hk'
   rw [how k (fun e=>by subst e;exact hk _ _ hk')]
   exact h.wi.kow k o c hk'
  ·intro id o' ho'
   obtain ⟨k,h1,h2⟩:=h.wi.obj id o' ho'
   have hne:k ≠ b:=fun e'=>hD1 id (e' ▸ h1)
   exact ⟨k,le.ob k id h1,OR_mono le (ho.heap k hne) h2⟩
  ·intro id k k' h1 h2
   exact h.wi.obu id k k' (back k _ (by simp) h1).1 (back k' _ (by simp) h2).1
  ·intro id k h1
   exact h.wi.obn id k (back k _ (by simp) h1).1
  ·intro k h1
   rw [ho.size]
   by_cases e':k=b
   ·subst e';exact hbs
   rw [how k e'] at h1;exact h.wi.owlt k h1
  ·intro g cs' hg
   simp only [Sim.upd] at hg
   split at hg
   ·rename_i e
    subst e
    cases hg
    exact ⟨b,_,vs,rest,Sim.upd_same _ _ _,howb,hB,VRs_mono' le cs vs (.inl hT) hv,hn,hc,rfl⟩
   obtain ⟨k1,k2⟩:=hmu g cs' hg
   exact (h.wi.mus g cs' k1).mono le fun k hk'=>have hne:k ≠ b:=fun e=>k2 (e ▸ hk');⟨by rw [how k hne];exact hk',ho.heap k hne⟩
  intro g x hx
  show g < fr.sg.mn + 1
  by_cases e:g=fr.sg.mn
  ·omega
  have hx':G.M g=some x:=by rw [← hx];exact (Sim.upd_ne _ _ e).symm
  have:=h.wi.mun g x hx'
  omega
 have h0:=h.pres
 refine ⟨ho.os.trans h0.os,ho.tape.trans h0.tape,ho.output.trans h0.output,by rw [ho.size];exact h0.size,?_,h0.le.trans le,fun k hk' hf=>let ⟨h1,h2⟩:=h0.hid k hk' hf;⟨(ho.heap k (fun e=>let ⟨id,h3,_⟩:=h.wi.hid k h2;hD1 id (e ▸ h3))).trans h1,h2⟩⟩
 intro k hk' hf
 obtain ⟨h1,h2,h3⟩:=h0.free k hk' hf
 have hne:k ≠ b:=fun e'=>by subst e';exact hC hk' hf
 exact ⟨(ho.heap k hne).trans h1,by rw [how k hne];exact h2,h3⟩
theorem src_vals {s:Sg} (h:WI G s w) {sz k:Nat} {av:AV} {ys:List AV} {v:Value} (hs:srcOf sz s av=some (k,ys)) (hv:VR G av v) :
 ∃ ad cap us,v=.slice ad k cap ∧ k ≤ cap ∧ ys.length=k * sz ∧ AV.nts ys=true ∧ ys.all AV.isCell=true ∧ VRs G ys us ∧ (ad=none → k=0) ∧
  ∀ p,ad=some p → (k=0 ∨ p.spot=none) ∧ ∀ (j:Nat) u,us[j]?=some u → w.cell? (p.add j)=some u:=by
 cases av with
 | slice o sz' xs =>
   simp only [srcOf] at hs
   split at hs
   ·rename_i e
    subst e
    simp only [Oie,Pie] at hs
    obtain ⟨rfl,rfl⟩:=hs
    simp only [VR] at hv
    obtain ⟨ad,cap,rfl,h1,h2,h3,h4⟩:=hv
    cases ad with
    | none =>
      simp only [lies] at h3
      have:xs=[]:=List.length_eq_zero_iff.1 (by omega)
      subst this
      exact ⟨none,cap,[],rfl,h1,by simp [flat],rfl,rfl,by simp only [flat,List.flatMap_nil,VRs],fun _=>rfl,fun p e=>(by cases e)⟩
    | some ad =>
      obtain ⟨us,e1,e2,e3,e4⟩:=h.slice_vals h3
      exact ⟨some ad,cap,us,rfl,h1,flat_length h2,e3,e4,e1,fun e=>(by cases e),fun p e=>(by cases e;exact ⟨h3.1.imp (fun q=>by rw [q];rfl) id,e2⟩)⟩
   cases hs
 | ms g off len sz' =>
   simp only [srcOf] at hs
   split at hs
   ·rename_i e
    subst e
    simp only [Obe] at hs
    obtain ⟨cs,hcs,hs⟩:=hs
    split at hs
    ·rename_i hle
     simp only [Oie,Pie] at hs
     obtain ⟨rfl,rfl⟩:=hs
     simp only [VR] at hv
     obtain ⟨b,room,cap,rfl,h1,h2,h3⟩:=hv
     obtain ⟨b',room',vs,rest,k1,k2,k3,k4,k5,k6,k7⟩:=h.mus g cs hcs
     obtain ⟨rfl,rfl⟩:b=b' ∧ room=room':=by rw [h1] at k1;simpa using k1
     have hl:=VRs_length k4
     refine ⟨some ⟨b,off,none⟩,cap,(vs.drop off).take (len * sz),rfl,h2,by simp;omega,?_,?_,VRs_take (VRs_drop k4 off) _,fun e=>(by cases e),fun p e=>⟨.inr (by cases e;rfl),fun j u hu=>?_⟩⟩
     ·rw [AV.nts_iff] at k5 ⊢
      exact fun c hc=>k5 c (List.mem_of_mem_drop (List.mem_of_mem_take hc))
     ·rw [List.all_eq_true] at k6 ⊢
      exact fun c hc=>k6 c (List.mem_of_mem_drop (List.mem_of_mem_take hc))
     cases e
     rw [List.getElem?_take] at hu
     split at hu
     ·rw [List.getElem?_drop] at hu
      rw [add_plain,k3.cell,List.getElem?_append_left]
      ·exact hu
      rcases Nat.lt_or_ge (off + j) vs.length with h' | h'
      ·exact h'
      rw [List.getElem?_eq_none h'] at hu;cases hu
     cases hu
    cases hs
   cases hs
 | _=>simp [srcOf] at hs
theorem VRs_zeros {z:List AV} {vs:List Value} (h:VRs G z vs):∀ n,VRs G (zeros z n) ((List.replicate n vs).flatten)
 | 0=>by simp only [zeros,List.replicate_zero,List.flatten_nil,VRs]
 | n + 1=>by
   simp only [zeros,List.replicate_succ,List.flatten_cons]
   exact VRs_append h (VRs_zeros h n)
theorem made_list (z:Array Value):∀ k:Nat,(madeCells z (k * z.size)).toList=(List.replicate k z.toList).flatten
 | 0=>by simp [madeCells]
 | k + 1=>by
   rw [List.replicate_succ',List.flatten_concat,← made_list z k]
   simp only [madeCells,Array.toList_map,Array.toList_range]
   rw [Nat.add_mul,Nat.one_mul,List.range_add,List.map_append,List.map_map]
   congr 1
   apply List.ext_getElem
   ·simp
   intro i h1 h2
   simp only [List.length_map,List.length_range] at h1
   simp only [List.getElem_map,List.getElem_range,Function.comp_apply]
   rw [show (k * z.size + i) % z.size=i by rw [Nat.add_comm,Nat.add_mul_mod_self_right,Nat.mod_eq_of_lt h1]]
   simp [h1]
def mMks (P:Program) (t sz by_:Nat) (z:List AV):Bool :=
 match P.underlying t with
 | some (.slice e)=>(match P.info? e with
   | some i=>i.size == sz && i.bytes == by_ && decide (0 < i.bytes) && (match i.zero with
     | some v=>v.cells.size == sz && coks z v.cells.toList && z.all AV.isCell
     | none=>false)
   | none=>false)
 | _=>false
theorem sim_mks (h:RR w0 G0 G fr a w) {t sz by_:Nat} {z:List AV} (hm:mMks P t sz by_ z=true) {kn km:IntKind} {n m:Int} {av:AV} {s':Sg} (he:mksOf sz by_ z fr.sg n m=some (av,s')) :
 ∃ u w',(Instr.makeSlice t (.int kn n) (.int km m)).run P w=.ok u w' ∧ ∃ G',RR w0 G0 G' { fr with sg:=s' } a w' ∧ VR G' av u:=by
 unfold mMks at hm
 split at hm
 ·rename_i e hu
  split at hm
  ·rename_i i hi
   simp only [Bae,beq_iff_eq,Dte] at hm
   obtain ⟨⟨⟨rfl,rfl⟩,hpos⟩,hm⟩:=hm
   split at hm
   ·rename_i zv hz
    simp only [Bae,beq_iff_eq] at hm
    obtain ⟨⟨hs,hck⟩,hcell⟩:=hm
    unfold mksOf at he
    split at he
    ·rename_i hc
     obtain ⟨h0,h1,h2⟩:=hc
     simp only [Oie,Pie] at he
     obtain ⟨rfl,rfl⟩:=he
     obtain ⟨z1,z2⟩:=coks_sound G z zv.cells.toList hck
     have hb:m.toNat * i.bytes ≤ 140737488355328:=h2
     have hmb:m.toNat ≤ m.toNat * i.bytes:=Nat.le_mul_of_pos_right _ hpos
     have hrun:=run_make (P:=P) w t e i zv hu hi hz kn km n m h0 h1 (by
      have:(i.bytes:Int) * m=((m.toNat * i.bytes:Nat):Int):=by rw [Int.natCast_mul,Int.toNat_of_nonneg (by omega),Int.mul_comm]
      rw [this];omega) (by omega)
     obtain ⟨f1,f2⟩:=h.wi.nofree (Nat.le_refl w.heap.size)
     have hg:Grew w (w.alloc (.cells (madeCells zv.cells (m.toNat * i.size)) e)):=grew_push w _ w.drawn
     have hlist:(madeCells zv.cells (m.toNat * i.size)).toList=(List.replicate n.toNat zv.cells.toList).flatten ++ (List.replicate (m.toNat - n.toNat) zv.cells.toList).flatten:=by
      rw [← hs,made_list,← List.flatten_append,List.replicate_append_replicate,show n.toNat + (m.toNat - n.toNat)=m.toNat by omega]
     have hB:BL (w.alloc (.cells (madeCells zv.cells (m.toNat * i.size)) e)) w.heap.size ((List.replicate n.toNat zv.cells.toList).flatten ++ (List.replicate (m.toNat - n.toNat) zv.cells.toList).flatten):=by
      rw [← hlist];exact ⟨e,push_at w _ w.drawn⟩
     have hnz:∀ k,AV.nts (zeros z k)=true:=fun k=>by
      rw [AV.nts_iff]
      intro c hc
      obtain ⟨l,hl,hc'⟩:=List.mem_flatten.1 hc
      rw [List.eq_of_mem_replicate hl] at hc'
      exact (AV.nts_iff _).1 z2 c hc'
     have hcz:∀ k,(zeros z k).all AV.isCell=true:=fun k=>by
      rw [List.all_eq_true]
      intro c hc
      obtain ⟨l,hl,hc'⟩:=List.mem_flatten.1 hc
      rw [List.eq_of_mem_replicate hl] at hc'
      exact List.all_eq_true.1 hcell c hc'
     obtain ⟨G',k1,k2,k3,k4⟩:=(h.grow hg).mkmut (b:=w.heap.size) (mu':=fr.sg.mu) (fun id e=>by rw [f1] at e;cases e) (fun i e=>by rw [f1] at e;cases e) (fun t x e=>by rw [f1] at e;cases e) (fun g x e=>by rw [f1] at e;cases e) f2
      (fun hb=>absurd h.pres.size (by omega)) (Only.refl _ _) hB (VRs_zeros z1 n.toNat) (hnz _) (hcz _) (fun g cs' hg=>⟨hg,by rw [f1];simp⟩)
     refine ⟨_,_,hrun,G',k1,?_⟩
     simp only [VR]
     refine ⟨w.heap.size,_,m.toNat,rfl,k4,by omega,?_⟩
     rw [← hlist]
     simp [size_madeCells]
    cases he
   cases hm
  cases hm
 cases hm
theorem sim_cpy (h:RR w0 G0 G fr a w) {t t2 ty sz e:Nat} (hu:P.underlying t=some (.slice e)) (hs:szOf P e=some sz) {dst src av:AV} {u v:Value} {s':Sg} (hd:VR G dst u) (hv:VR G src v) (he:cpyOf sz fr.sg src dst=some (av,s')) :
 ∃ x w',(Builtin.copy_ #[t,t2] ty #[u,v]).run P w=.ok x w' ∧ ∃ G',RR w0 G0 G' { fr with sg:=s' } a w' ∧ VR G' av x:=by
 cases dst with
 | ms g off len sz' =>
   simp only [cpyOf] at he
   split at he
   ·rename_i esz
    subst esz
    simp only [Obe] at he
    obtain ⟨⟨k,ys⟩,hsrc,cs,hcs,he⟩:=he
    split at he
    ·rename_i hle
     simp only [Oie,Pie] at he
     obtain ⟨rfl,rfl⟩:=he
     dsimp only at hle ⊢
     obtain ⟨ad,cap,us,rfl,s1,s2,s3,s4,s5,s6,s7⟩:=src_vals h.wi hsrc hv
     simp only [VR] at hd
     obtain ⟨b,room,dcap,rfl,d1,d2,d3⟩:=hd
     obtain ⟨b',room',vs,rest,k1,k2,k3,k4,k5,k6,k7⟩:=h.wi.mus g cs hcs
     obtain ⟨rfl,rfl⟩:b=b' ∧ room=room':=by rw [d1] at k1;simpa using k1
     have hvl:=VRs_length k4
     have hul:us.length=k * sz:=by rw [VRs_length s5,s2]
     have hmk:min k len * sz ≤ k * sz:=Nat.mul_le_mul_right _ (Nat.min_le_left _ _)
     have hnl:(us.take (min k len * sz)).length=min k len * sz:=by rw [List.length_take,hul];omega
     have hload:(Builtin.firstCells sz (min k len) (.slice ad k cap)).run P w=.ok (us.take (min k len * sz)).toArray w:=by
      cases ad with
      | none =>
        have:k=0:=s6 rfl
        subst this
        simp [Builtin.firstCells]
      | some p =>
        obtain ⟨q1,q2⟩:=s7 p rfl
        obtain ⟨pb,po,ps⟩:=p
        rcases q1 with q1 | q1
        ·subst q1
         simp [Builtin.firstCells,loadCells,loadCellsFrom]
        obtain rfl:ps=none:=q1
        exact run_loadCells _ hnl fun j x hx=>by
         rw [List.getElem?_take] at hx
         split at hx
         ·have:=q2 j x hx
          rwa [add_plain] at this
         cases hx
     have htk:VRs G (ys.take (min k len * sz)) (us.take (min k len * sz)):=VRs_take s5 _
     have hcell:(ys.take (min k len * sz)).all AV.isCell=true:=by
      rw [List.all_eq_true] at s4 ⊢
      exact fun c hc=>s4 c (List.mem_of_mem_take hc)
     have hnt:AV.nts (ys.take (min k len * sz))=true:=by
      rw [AV.nts_iff] at s3 ⊢
      exact fun c hc=>s3 c (List.mem_of_mem_take hc)
     have hle2:off + (us.take (min k len * sz)).length ≤ (vs ++ rest).length:=by rw [List.length_append,hvl,hnl];omega
     obtain ⟨w',g1,g2,g3⟩:=run_storeCells0 (P:=P) (o:=off) k3 hle2 (VRs_cellV htk hcell)
     have hyl:(ys.take (min k len * sz)).length=min k len * sz:=by rw [List.length_take,s2];omega
     refine ⟨.int .i64 (min k len:Nat),w',?_,G,h.stmu (b:=b) k2 g2 ⟨b,room,_,rest,d1,k2,?_,VRs_wr k4 htk off,wr_nts k5 hnt off,wr_cells k6 hcell off,?_⟩,by unfold VR;exact ⟨rfl,rfl⟩⟩
     ·simp only [Builtin.copy_,List.getElem?_toArray,List.getElem?_cons_zero,List.getElem?_cons_succ]
      simp [run_underlying hu,Builtin.lenOf,run_szOf hs,hload,g1,goInt]
     ·have e2:(vs ++ rest).take off ++ us.take (min k len * sz) ++ (vs ++ rest).drop (off + (us.take (min k len * sz)).length)=(vs.take off ++ us.take (min k len * sz) ++ vs.drop (off + (us.take (min k len * sz)).length)) ++ rest:=by
       rw [List.take_append_of_le_length (by omega),List.drop_append_of_le_length (by rw [hnl,hvl];exact hle)]
       simp only [List.append_assoc]
      rw [← e2]
      exact g3
     simp only [List.length_append,List.length_take,List.length_drop] at k7 hnl ⊢
     omega
    cases he
   cases he
 | slice o sz' xs =>
   cases xs with
   | cons x xs=>simp [cpyOf] at he
   | nil =>
     simp only [cpyOf] at he
     split at he
     ·rename_i esz
      subst esz
      simp only [Obe,Oie,Pie] at he
      obtain ⟨⟨k,ys⟩,hsrc,rfl,rfl⟩:=he
      obtain ⟨ad,cap,us,rfl,s1,s2,s3,s4,s5,s6,s7⟩:=src_vals h.wi hsrc hv
      simp only [VR] at hd
      obtain ⟨da,dcap,rfl,d1,d2,d3,d4⟩:=hd
      refine ⟨.int .i64 (0:Nat),w,?_,G,h,by unfold VR;exact ⟨rfl,rfl⟩⟩
      simp only [Builtin.copy_,List.getElem?_toArray,List.getElem?_cons_zero,List.getElem?_cons_succ]
      have hf:(Builtin.firstCells sz 0 (.slice ad k cap)).run P w=.ok #[] w:=by
       cases ad <;> simp [Builtin.firstCells,loadCells,loadCellsFrom]
      simp [run_underlying hu,Builtin.lenOf,run_szOf hs,hf,goInt]
      cases da <;> simp [storeCells]
     cases he
 | _=>simp [cpyOf] at he
theorem RR.unmut (h:RR w0 G0 G fr a w) {g b off:Nat} (hb:G.ow b=.mu g) {ys:List AV} {us:List Value} (hv:VRs G ys us) (hcl:∀ (j:Nat) u,us[j]?=some u → w.cell? ⟨b,off + j,none⟩=some u) (hn:AV.nts ys=true) (hc:ys.all AV.isCell=true) :
 ∃ G',RR w0 G0 G' { fr with sg:={ fr.sg with mu:=Sim.upd fr.sg.mu g none } } a w ∧ Gle G G' ∧ Tle G G' ∧ (∀ (j:Nat) c,ys[j]?=some c → G'.K b (off + j) c) ∧ ∀ k i,G.ow k=.loc i → G'.ow k=.loc i:=by
 let G':Gh:={ G with K:=claimAt G b off ys,ow:=fun k=>if k=b then .free else G.ow k }
 have how:∀ k,k ≠ b → G'.ow k=G.ow k:=fun k hk=>if_neg hk
 have howb:G'.ow b=.free:=if_pos rfl
 have hno:∀ o c,¬ G.K b o c:=fun o c hk=>by have:=h.wi.kow b o c hk;rw [hb] at this;exact this
 have hA:∀ o c,G.K b o c → o < off:=fun o c x=>absurd x (hno o c)
 have le:Gle G G':=⟨fun k o c x=>claimAt_old G ys hA x,fun k id hk=>by rw [how k (fun e=>by subst e;rw [hb] at hk;cases hk)];exact hk,fun _ _ x=>x,fun _ _ x=>x⟩
 have hT:Tle G G':=fun _ _ x=>x
 have back:∀ k x,x ≠ .free → G'.ow k=x → G.ow k=x ∧ k ≠ b:=by
  intro k x hx hk
  by_cases e:k=b
  ·subst e;rw [howb] at hk;exact absurd hk.symm hx
  rw [how k e] at hk;exact ⟨hk,e⟩
 have hR:∀ {x mk},(∀ e',mk e' ≠ .mu g) → Right G w x mk → Right G' w x mk:=fun hm r=>r.mono (fun _ e=>e) fun k e' hk=>⟨by rw [how k (fun e=>by subst e;rw [hb] at hk;exact hm e' hk.symm)];exact hk,rfl⟩
 refine ⟨G',⟨?_,?_,?_,fun t ht=>hR (fun e=>by simp) (h.tips t ht),h.nt,?_,DR_mono le _ _ h.df,?_⟩,le,hT,fun j c hj=>claimAt_new G b off ys j c hj,fun k i hk=>by rw [how k (fun e=>by subst e;rw [hb] at hk;cases hk)];exact hk⟩
 ·intro i tv hx
  obtain ⟨h1,h2⟩:=h.env i tv hx
  exact ⟨h1,TR_mono le hT (fun i _ _ k hk=>by rw [how k (fun e=>by subst e;rw [hb] at hk;cases hk)];exact hk) h2⟩
 ·intro i cs' hx
  obtain ⟨b',vs',h1,h2,h3,h4⟩:=h.loc i cs' hx
  exact ⟨b',vs',by rw [how b' (fun e=>by subst e;rw [hb] at h1;cases h1)];exact h1,h2,VRs_mono' le cs' vs' (.inl hT) h3,h4⟩
 ·intro i k k' h1 h2
  exact h.locu i k k' (back k _ (by simp) h1).1 (back k' _ (by simp) h2).1
 ·refine h.wi.upd0 le (fun _ _ _ _=>J) ?_ ?_ ?_ ?_ ?_ (fun g' hg=>hR (fun e=>by simp) (h.wi.gts g' hg)) h.wi.gn ?_ ?_ h.wi.mun
  ·intro k o c hk
   rcases claimAt_inv G ys hk with h1 | ⟨rfl,j,rfl,hj⟩
   ·exact .inl h1
   obtain ⟨v,hv1,hv2⟩:=VRs_get hv j c hj
   exact .inr ⟨⟨v,hcl j v hv1,VR_mono' le c v (.inl hT) hv2⟩,(AV.nts_iff ys).1 hn c (Lmg hj),List.all_eq_true.1 hc c (Lmg hj)⟩
  ·intro k o c hk
   by_cases e:k=b
   ·subst e;rw [howb];trivial
   rcases claimAt_inv G ys hk with h1 | ⟨rfl,_⟩
   ·rw [how k e];exact h.wi.kow k o c h1
   exact absurd rfl e
  ·intro id o' ho'
   obtain ⟨k,h1,h2⟩:=h.wi.obj id o' ho'
   exact ⟨k,le.ob k id h1,OR_mono le rfl h2⟩
  ·intro id k k' h1 h2
   exact h.wi.obu id k k' (back k _ (by simp) h1).1 (back k' _ (by simp) h2).1
  ·intro id k h1
   exact h.wi.obn id k (back k _ (by simp) h1).1
  ·intro k h1
   by_cases e:k=b
   ·subst e;exact absurd howb h1
   rw [how k e] at h1;exact h.wi.owlt k h1
  intro g' cs' hg
  simp only [Sim.upd] at hg
  split at hg
  ·cases hg
  rename_i e
  exact (h.wi.mus g' cs' hg).mono le fun k hk=>⟨by rw [how k (fun e'=>by subst e';rw [hb] at hk;cases hk;exact e rfl)];exact hk,rfl⟩
 have h0:=h.pres
 refine ⟨h0.os,h0.tape,h0.output,h0.size,?_,h0.le.trans le,h0.hid⟩
 intro k hk' hf'
 obtain ⟨h1,h2,h3⟩:=h0.free k hk' hf'
 have hne:k ≠ b:=fun e=>by subst e;rw [hb] at h2;cases h2
 refine ⟨h1,by rw [how k hne];exact h2,fun o=>?_⟩
 rw [← h3 o]
 show claimAt G b off ys k o=_
 unfold claimAt
 rw [if_neg (fun x=>hne x.1)]
theorem flat_unfl {sz:Nat} (hs:0 < sz):∀ (n:Nat) (cs:List AV),cs.length=n * sz → cs.all AV.isCell=true → flat (unfl sz n cs)=cs ∧ (unfl sz n cs).length=n ∧ ∀ x ∈ unfl sz n cs,x.cells.length=sz
 | 0,cs,hl,_=>by
   have:cs=[]:=List.length_eq_zero_iff.1 (by simpa using hl)
   subst this
   exact ⟨rfl,rfl,fun x hx=>by cases hx⟩
 | n + 1,cs,hl,hc=>by
   rw [Nat.add_mul,Nat.one_mul] at hl
   have hc':(cs.drop sz).all AV.isCell=true:=by
    rw [List.all_eq_true] at hc ⊢
    exact fun c hm=>hc c (List.mem_of_mem_drop hm)
   obtain ⟨h1,h2,h3⟩:=flat_unfl hs n (cs.drop sz) (by simp;omega) hc'
   have key:∀ x:AV,x.cells=cs.take sz → flat (x :: unfl sz n (cs.drop sz))=cs ∧ (x :: unfl sz n (cs.drop sz)).length=n + 1 ∧ ∀ y ∈ x :: unfl sz n (cs.drop sz),y.cells.length=sz:=fun x hx=>by
    refine ⟨?_,by simp [h2],fun y hy=>?_⟩
    ·have:flat (x :: unfl sz n (cs.drop sz))=x.cells ++ flat (unfl sz n (cs.drop sz)):=rfl
     rw [this,hx,h1,List.take_append_drop]
    rcases List.mem_cons.1 hy with rfl | hy
    ·rw [hx];simp;omega
    exact h3 y hy
   simp only [unfl]
   split
   ·rename_i c r
    refine key c ?_
    have:=List.all_eq_true.1 hc c (List.mem_cons_self ..)
    cases c <;> first | rfl | simp [AV.isCell] at this
   exact key _ rfl
theorem sim_frz (h:RR w0 G0 G fr a w) {sz:Nat} {x av:AV} {u:Value} {s':Sg} (hx:VR G x u) (he:frzOf sz fr.sg x=some (av,s')):∃ G',RR w0 G0 G' { fr with sg:=s' } a w ∧ VR G' av u ∧ Gle G G' ∧ Tle G G' ∧ ∀ k i,G.ow k=.loc i → G'.ow k=.loc i:=by
 cases x with
 | slice o sz' xs =>
   simp only [frzOf] at he
   split at he
   ·rename_i e
    subst e
    simp only [Oie,Pie] at he
    obtain ⟨rfl,rfl⟩:=he
    exact ⟨G,h,VR_er (.slice o sz xs) u hx,Gle.refl G,fun _ _ e=>e,fun _ _ e=>e⟩
   cases he
 | ms g off len sz' =>
   simp only [frzOf] at he
   split at he
   ·rename_i e
    obtain ⟨rfl,hpos⟩:=e
    simp only [Obe] at he
    obtain ⟨cs,hcs,he⟩:=he
    split at he
    ·rename_i hle
     simp only [Oie,Pie] at he
     obtain ⟨rfl,rfl⟩:=he
     simp only [VR] at hx
     obtain ⟨b,room,cap,rfl,d1,d2,d3⟩:=hx
     obtain ⟨b',room',vs,rest,k1,k2,k3,k4,k5,k6,k7⟩:=h.wi.mus g cs hcs
     obtain ⟨rfl,rfl⟩:b=b' ∧ room=room':=by rw [d1] at k1;simpa using k1
     have hvl:=VRs_length k4
     have hcc:((cs.drop off).take (len * sz)).all AV.isCell=true:=by
      rw [List.all_eq_true] at k6 ⊢
      exact fun c hc=>k6 c (List.mem_of_mem_drop (List.mem_of_mem_take hc))
     obtain ⟨G',r1,r2,r3,r4,r5⟩:=h.unmut (off:=off) k2 (ys:=(cs.drop off).take (len * sz)) (VRs_take (VRs_drop k4 off) _) (fun j u hu=>by
      rw [List.getElem?_take] at hu
      split at hu
      ·rw [List.getElem?_drop] at hu
       rw [k3.cell,List.getElem?_append_left]
       ·exact hu
       rcases Nat.lt_or_ge (off + j) vs.length with h' | h'
       ·exact h'
       rw [List.getElem?_eq_none h'] at hu;cases hu
      cases hu)
      (by rw [AV.nts_iff] at k5 ⊢;exact fun c hc=>k5 c (List.mem_of_mem_drop (List.mem_of_mem_take hc))) hcc
     obtain ⟨f1,f2,f3⟩:=flat_unfl hpos len ((cs.drop off).take (len * sz)) (by simp;omega) hcc
     refine ⟨G',r1,?_,r2,r3,r5⟩
     simp only [VR]
     exact ⟨some ⟨b,off,none⟩,cap,by rw [f2],by rw [f2];exact d2,f3,⟨.inr rfl,fun j c hj=>by rw [f1] at hj;exact r4 j c hj⟩,trivial⟩
    cases he
   cases he
 | _=>simp [frzOf] at he
theorem sim_frzC (h:RR w0 G0 G fr a w) {x av:AV} {u:Value} {s':Sg} (hx:VR G x u) (he:frzC fr.sg x=some (av,s')):∃ G',RR w0 G0 G' { fr with sg:=s' } a w ∧ VR G' av u ∧ Gle G G' ∧ Tle G G':=by
 unfold frzC at he
 split at he
 ·obtain ⟨G',r1,r2,r3,r4,_⟩:=sim_frz h hx he
  exact ⟨G',r1,r2,r3,r4⟩
 cases he
 exact ⟨G,h,hx,Gle.refl G,fun _ _ e=>e⟩
theorem frzC_cell {s s':Sg} {x av:AV} (hx:x.isCell=true) (he:frzC s x=some (av,s')):av.isCell=true:=by
 unfold frzC at he
 split at he
 ·simp only [frzOf] at he
  split at he
  ·simp only [Obe] at he
   obtain ⟨cs,_,he⟩:=he
   split at he
   ·cases he;rfl
   cases he
  cases he
 cases he;exact hx
theorem frzL_cells:∀ {cs ds:List AV} {s s':Sg},cs.all AV.isCell=true → frzL s cs=some (ds,s') → ds.all AV.isCell=true
 | [],ds,s,s',_,he=>by simp only [frzL,Oie,Pie] at he;rw [← he.1];rfl
 | c :: cs,ds,s,s',hc,he=>by
   simp only [frzL,Obe,Oie,Pie] at he
   obtain ⟨⟨d,s1⟩,h1,⟨r,s2⟩,h2,rfl,rfl⟩:=he
   simp only [List.all_cons,Bae] at hc ⊢
   exact ⟨frzC_cell hc.1 h1,frzL_cells hc.2 h2⟩
theorem sim_frzL:∀ {cs ds:List AV} {us:List Value} {fr:Fr} {G:Gh} {s':Sg},RR w0 G0 G fr a w → VRs G cs us → frzL fr.sg cs=some (ds,s') → ∃ G',RR w0 G0 G' { fr with sg:=s' } a w ∧ VRs G' ds us ∧ Gle G G' ∧ Tle G G'
 | [],ds,us,fr,G,s',h,hv,he=>by
   simp only [frzL,Oie,Pie] at he
   obtain ⟨rfl,rfl⟩:=he
   exact ⟨G,h,hv,Gle.refl G,fun _ _ e=>e⟩
 | c :: cs,ds,us,fr,G,s',h,hv,he=>by
   simp only [frzL,Obe,Oie,Pie] at he
   obtain ⟨⟨d,s1⟩,h1,⟨r,s2⟩,h2,rfl,rfl⟩:=he
   simp only [VRs] at hv
   obtain ⟨u,ur,rfl,hu,hur⟩:=hv
   obtain ⟨G1,k1,k2,k3,k4⟩:=sim_frzC h hu h1
   obtain ⟨G2,q1,q2,q3,q4⟩:=sim_frzL (fr:={ fr with sg:=s1 }) k1 (VRs_mono' k3 cs ur (.inl k4) hur) h2
   refine ⟨G2,q1,?_,k3.trans q3,fun t x e=>q4 t x (k4 t x e)⟩
   simp only [VRs]
   exact ⟨u,ur,rfl,VR_mono' q3 d u (.inl q4) k2,q2⟩
theorem sim_frzV (h:RR w0 G0 G fr a w) {x av:AV} {u:Value} {s':Sg} (hx:VR G x u) (he:frzV fr.sg x=some (av,s')):∃ G',RR w0 G0 G' { fr with sg:=s' } a w ∧ VR G' av u:=by
 unfold frzV at he
 split at he
 ·simp only [Obe,Oie,Pie] at he
  obtain ⟨⟨ds,s1⟩,h1,rfl,rfl⟩:=he
  simp only [VR] at hx
  obtain ⟨us,rfl,h2,h3⟩:=hx
  obtain ⟨G',k1,k2,_,_⟩:=sim_frzL h h2 h1
  refine ⟨G',k1,?_⟩
  simp only [VR]
  exact ⟨us,rfl,k2,frzL_cells h3 h1⟩
 obtain ⟨G',k1,k2,_,_⟩:=sim_frzC h hx he
 exact ⟨G',k1,k2⟩
theorem RR.remu (h:RR w0 G0 G fr a w) {g:Nat} {cs':List AV} (hm:Mut G w g cs'):RR w0 G0 G { fr with sg:={ fr.sg with mu:=Sim.upd fr.sg.mu g (some cs') } } a w:=by
 refine ⟨h.env,h.loc,h.locu,h.tips,h.nt,⟨h.wi.claim,h.wi.kow,h.wi.obj,h.wi.obu,h.wi.obn,h.wi.gts,h.wi.gn,h.wi.owlt,h.wi.glb,fun g' cs hg=>?_,h.wi.mun,h.wi.hid⟩,h.df,h.pres⟩
 have hg:Sim.upd fr.sg.mu g (some cs') g'=some cs:=hg
 simp only [Sim.upd] at hg
 split at hg
 ·rename_i e
  cases hg
  rw [e]
  exact hm
 exact h.wi.mus g' cs hg
def SimF (w0:World) (G0:Gh) (a:Act) (w:World) (f:Sg → AV → Option (AV × Sg)):Prop:=∀ (x av:AV) (u:Value) (fr:Fr) (G:Gh) (s':Sg),RR w0 G0 G fr a w → VR G x u → f fr.sg x=some (av,s') →
 ∃ G',RR w0 G0 G' { fr with sg:=s' } a w ∧ VR G' av u ∧ Gle G G' ∧ Tle G G' ∧ (x.isCell=true → av.isCell=true) ∧ ∀ k i,G.ow k=.loc i → G'.ow k=.loc i
theorem sim_frzDL {f:Sg → AV → Option (AV × Sg)} (hf:SimF w0 G0 a w f):∀ {cs ds:List AV} {us:List Value} {fr:Fr} {G:Gh} {s':Sg},RR w0 G0 G fr a w → VRs G cs us → frzDL f fr.sg cs=some (ds,s') →
 ∃ G',RR w0 G0 G' { fr with sg:=s' } a w ∧ VRs G' ds us ∧ Gle G G' ∧ Tle G G' ∧ (cs.all AV.isCell=true → ds.all AV.isCell=true) ∧ ∀ k i,G.ow k=.loc i → G'.ow k=.loc i
 | [],ds,us,fr,G,s',h,hv,he=>by
   simp only [frzDL,Oie,Pie] at he
   obtain ⟨rfl,rfl⟩:=he
   exact ⟨G,h,hv,Gle.refl G,fun _ _ e=>e,fun e=>e,fun _ _ e=>e⟩
 | c :: cs,ds,us,fr,G,s',h,hv,he=>by
   simp only [frzDL,Obe,Oie,Pie] at he
   obtain ⟨⟨d,s1⟩,h1,⟨r,s2⟩,h2,rfl,rfl⟩:=he
   simp only [VRs] at hv
   obtain ⟨u,ur,rfl,hu,hur⟩:=hv
   obtain ⟨G1,k1,k2,k3,k4,k5,k6⟩:=hf _ _ _ fr _ _ h hu h1
   obtain ⟨G2,q1,q2,q3,q4,q5,q6⟩:=sim_frzDL hf (fr:={ fr with sg:=s1 }) k1 (VRs_mono' k3 cs ur (.inl k4) hur) h2
   refine ⟨G2,q1,?_,k3.trans q3,fun t x e=>q4 t x (k4 t x e),?_,fun k i e=>q6 k i (k6 k i e)⟩
   ·simp only [VRs]
    exact ⟨u,ur,rfl,VR_mono' q3 d u (.inl q4) k2,q2⟩
   intro hc
   simp only [List.all_cons,Bae] at hc ⊢
   exact ⟨k5 hc.1,q5 hc.2⟩
theorem BL.inj {w:World} {b:Nat} {cs ds:List Value} (h:BL w b cs) (k:BL w b ds):cs=ds:=by
 refine List.ext_getElem? fun i=>?_
 rw [← h.cell i,← k.cell i]
theorem frz_cell {sz g off len:Nat} {s s':Sg} {av:AV} (he:frzOf sz s (.ms g off len sz)=some (av,s')):av.isCell=true:=frzC_cell (s:=s) (s':=s') (x:=.ms g off len sz) rfl he
theorem sim_frzD:∀ n:Nat,SimF w0 G0 a w (frzD n)
 | 0=>by
   intro x av u fr G s' h hx he
   simp only [frzD,Oie,Pie] at he
   obtain ⟨rfl,rfl⟩:=he
   exact ⟨G,h,hx,Gle.refl G,fun _ _ e=>e,fun e=>e,fun _ _ e=>e⟩
 | n + 1=>by
   intro x av u fr G s' h hx he
   have hf:=sim_frzD n
   simp only [frzD] at he
   split at he
   ·rename_i g off len sz
    simp only [Obe] at he
    obtain ⟨cs,hcs,⟨ds,s1⟩,h1,he⟩:=he
    split at he
    ·rename_i hc
     obtain ⟨b,room,vs,rest,k1,k2,k3,k4,k5,k6,k7⟩:=h.wi.mus g cs hcs
     obtain ⟨G1,q1,q2,q3,q4,q5,q7⟩:=sim_frzDL hf h k4 h1
     obtain ⟨b',room',vs',rest',m1,m2,m3,m4,m5,m6,m7⟩:=q1.wi.mus g cs hc.1
     have hM:G1.M g=some (b,room):=q3.M g _ k1
     obtain ⟨rfl,rfl⟩:b=b' ∧ room=room':=by rw [hM] at m1;simpa using m1
     have hvs:vs ++ rest=vs' ++ rest':=k3.inj m3
     have hmut:Mut G1 w g ds:=⟨b,room,vs,rest,hM,m2,k3,q2,hc.2,q5 k6,k7⟩
     have q6:=RR.remu (fr:={ fr with sg:=s1 }) q1 hmut
     obtain ⟨G2,r1,r2,r3,r4,r5⟩:=sim_frz q6 (VR_mono' q3 _ u (.inl q4) hx) he
     exact ⟨G2,r1,r2,q3.trans r3,fun t x e=>r4 t x (q4 t x e),fun _=>frz_cell he,fun k i e=>r5 k i (q7 k i e)⟩
    cases he
   ·rename_i cs
    simp only [Obe,Oie,Pie] at he
    obtain ⟨⟨ds,s1⟩,h1,rfl,rfl⟩:=he
    simp only [VR] at hx
    obtain ⟨us,rfl,h2,h3⟩:=hx
    obtain ⟨G',k1,k2,k3,k4,k5,k6⟩:=sim_frzDL hf h h2 h1
    refine ⟨G',k1,?_,k3,k4,(fun e=>by cases e),k6⟩
    simp only [VR]
    exact ⟨us,rfl,k2,k5 h3⟩
   simp only [Oie,Pie] at he
   obtain ⟨rfl,rfl⟩:=he
   exact ⟨G,h,hx,Gle.refl G,fun _ _ e=>e,fun e=>e,fun _ _ e=>e⟩
theorem sim_retz (h:RR w0 G0 G fr a w) {n d:Nat} {fr':Fr} (he:retzF n d fr=some fr'):∃ G',RR w0 G0 G' fr' a w:=by
 unfold retzF at he
 split at he
 ·rename_i cs hcs
  simp only [Obe,Oie] at he
  obtain ⟨⟨ds,s1⟩,h1,rfl⟩:=he
  obtain ⟨b,vs,g1,g2,g3,g4⟩:=h.loc d cs hcs
  obtain ⟨G',k1,k2,k3,k4,k5,k6⟩:=sim_frzDL (sim_frzD n) h g3 h1
  refine ⟨G',⟨k1.env,fun i cs' hi=>?_,k1.locu,k1.tips,k1.nt,k1.wi,k1.df,k1.pres⟩⟩
  have hi:Sim.upd fr.loc d (some ds) i=some cs':=hi
  simp only [Sim.upd] at hi
  split at hi
  ·rename_i e
   cases hi
   subst e
   exact ⟨b,vs,k6 b i g1,g2,k2,k5 g4⟩
  exact k1.loc i cs' hi
 split at he
 ·rename_i v hv
  simp only [Obe,Oie] at he
  obtain ⟨⟨v',s1⟩,h1,rfl⟩:=he
  obtain ⟨g1,g2⟩:=h.env d _ hv
  obtain ⟨G',k1,k2,k3,k4,k5,_⟩:=sim_frzD n _ _ _ fr _ _ h g2 h1
  refine ⟨G',⟨fun i tv hi=>?_,k1.loc,k1.locu,k1.tips,k1.nt,k1.wi,k1.df,k1.pres⟩⟩
  have hi:Sim.upd fr.env d (some (.val v')) i=some tv:=hi
  simp only [Sim.upd] at hi
  split at hi
  ·rename_i e
   cases hi
   subst e
   exact ⟨g1,k2⟩
  exact k1.env i tv hi
 cases he
theorem sim_bslm (h:RR w0 G0 G fr a w) {t len sz:Nat} {ps:List AO} {qs:Array (Nat × Operand)} (hm:mBsl P t len sz ps qs.toList=true) {l:List AV} (he:evVs fr.env ps=some l) {av:AV} {s':Sg}
 (hl:bslmOf sz len fr.sg l=some (av,s')):∃ v w',(Instr.buildSlice t len (qs.map fun x=>(x.1,a.eval x.2))).run P w=.ok v w' ∧ ∃ G',RR w0 G0 G' { fr with sg:=s' } a w' ∧ VR G' av v:=by
 unfold bslmOf at hl
 split at hl
 ·rename_i hc
  obtain ⟨_,hc⟩:=hc
  cases hl
  obtain ⟨vs,w',hr,hg,hb,hve,hcs,hll⟩:=run_bsl h hm he hc
  obtain ⟨f1,f2⟩:=h.wi.nofree (Nat.le_refl w.heap.size)
  have hall:∀ x ∈ AV.ers l,x.cells.all AV.isCell=true:=fun x hx=>by
   obtain ⟨v,_,hv⟩:=VRs_mem hve hx
   exact (VR_cells hv).2
  obtain ⟨G',k1,k2,k3,k4⟩:=(h.grow hg).mkmut (b:=w.heap.size) (mu':=fr.sg.mu) (rest:=[]) (vs:=vs.flatMap fun v=>v.cells.toList) (fun id e=>by rw [f1] at e;cases e) (fun i e=>by rw [f1] at e;cases e) (fun t x e=>by rw [f1] at e;cases e) (fun g x e=>by rw [f1] at e;cases e) f2
   (fun hb=>absurd h.pres.size (by omega)) (Only.refl _ _) (by rw [List.append_nil];exact hb) (VRs_flat hve) (flat_nts ((AV.nts_iff _).1 (AV.nts_ers l))) (flat_cells hall) (fun g cs' hg=>⟨hg,by rw [f1];simp⟩)
  refine ⟨_,w',hr,G',k1,?_⟩
  have hfl:=VRs_length (VRs_flat hve)
  rw [flat_length hcs,AV.ers_eq,List.length_map,hll] at hfl
  simp only [VR]
  exact ⟨w.heap.size,_,len,rfl,k4,Nat.le_refl _,by rw [List.append_nil,Nat.zero_add];omega⟩
 cases hl
theorem flat_bytes (b:ByteArray):flat (bytesA b)=bytesA b:=by
 simp only [flat,bytesA,List.flatMap_map,AV.cells]
 rw [← List.map_eq_flatMap]
theorem bytes_grew (w:World) (e:TypeId) (b:ByteArray):Grew w (Lib.bytesWorld w e b) :=
 ⟨rfl,rfl,rfl,Lib.bytesWorld_size w e b,fun k hk=>Lib.bytesWorld_at_old w e b k hk⟩
theorem sim_s2b (h:RR w0 G0 G fr a w) {t t' e:TypeId} {x av:AV} {u:Value} {d:TypeDesc} (hs:P.underlying t=some d) (hd:P.underlying t'=some (.slice e)) (hb:P.underlying e=some (.int .u8)) (hx:VR G x u) (he:s2bOf x=some av) :
 ∃ v w',(convert t t' u).run P w=.ok v w' ∧ ∃ G',RR w0 G0 G' fr a w' ∧ VR G' av v:=by
 unfold s2bOf at he
 split at he
 ·rename_i b
  cases he
  simp only [VR] at hx
  obtain ⟨rfl,_⟩:=hx
  have hg:=bytes_grew w e b
  obtain ⟨f1,f2⟩:=h.wi.nofree (Nat.le_refl w.heap.size)
  have hl:(bytesA b).length=b.size:=by simp [bytesA]
  have hvs:VRs G (bytesA b) (b.data.toList.map fun c=>Value.int .u8 c.toNat):=by
   unfold bytesA
   generalize b.data.toList=l
   induction l with
   | nil=>simp only [List.map_nil,VRs]
   | cons c l ih=>simp only [List.map_cons,VRs];exact ⟨_,_,rfl,by simp only [VR];exact ⟨trivial,rfl⟩,ih⟩
  have hnt:AV.nts (bytesA b)=true:=by
   rw [AV.nts_iff]
   intro c hc
   simp only [bytesA,List.mem_map] at hc
   obtain ⟨_,_,rfl⟩:=hc
   rfl
  have hcc:(bytesA b).all AV.isCell=true:=by
   rw [List.all_eq_true]
   intro c hc
   simp only [bytesA,List.mem_map] at hc
   obtain ⟨_,_,rfl⟩:=hc
   rfl
  obtain ⟨G',k1,k2,k3,k4⟩:=(h.grow hg).mkclaim' (cs:=bytesA b) h.pres.size f1 f2 (fun j v hj=>by
   rw [Lgm] at hj
   obtain ⟨c,hc,rfl⟩:=Option.map_eq_some_iff.1 hj
   have hjl:j < b.size:=by
    rcases Nat.lt_or_ge j b.data.toList.length with h' | h'
    ·simpa using h'
    rw [List.getElem?_eq_none h'] at hc;cases hc
   rw [Lib.bytesWorld_cell w e b j hjl,List.getD_eq_getElem?_getD,hc]
   rfl) hvs hnt hcc
  refine ⟨_,_,Lib.run_convert_string_bytes w t t' e b hs hd hb,G',k1,?_⟩
  simp only [VR]
  exact ⟨some ⟨w.heap.size,0,none⟩,grownCap w b.size 0 e,by rw [hl],by rw [hl];exact grownCap_ge w b.size 0 e,fun c hc=>by
   simp only [bytesA,List.mem_map] at hc
   obtain ⟨_,_,rfl⟩:=hc
   rfl,⟨.inr rfl,fun j c hj=>by rw [flat_bytes] at hj;simpa using k4 j c hj⟩,trivial⟩
 cases he
def mGad (P:Program) (t:TypeId) (sz:Nat) (cs:List AV):Bool :=
 match arrOf P t with
 | some (len,s)=>s == sz && cs.length == len * sz
 | none=>false
theorem sim_gad (h:RR w0 G0 G fr a w) {t:TypeId} {g sz:Nat} {cs:List AV} (hm:mGad P t sz cs=true) {n:Int} {av:AV} (hi:gadOf g sz cs fr.sg n=some av) {kn:IntKind} :
 ∃ u,(Instr.indexAt t (.pointer (some ⟨g,0,none⟩)) (.int kn n)).run P w=.ok u w ∧ VR G av u:=by
 unfold gadOf at hi
 split at hi
 ·rename_i hc
  obtain ⟨h0,h1,h2⟩:=hc
  cases hi
  unfold mGad at hm
  unfold arrOf at hm
  split at hm
  ·rename_i len s hs
   simp only [Bae,beq_iff_eq] at hm
   obtain ⟨rfl,hl⟩:=hm
   split at hs
   ·rename_i nn e hu
    obtain ⟨s',hz,hs⟩:=Option.map_eq_some_iff.1 hs
    cases hs
    have hlt:n < len:=by
     rw [hl] at h1
     have:=Nat.lt_of_mul_lt_mul_right h1
     omega
    refine ⟨.pointer (some ⟨g,0 + n.toNat * s,none⟩),?_,?_⟩
    ·simp [Instr.indexAt,asIntOf,run_underlying hu,h0,hlt,Instr.sureAddr,run_szOf hz,add_plain]
    simp only [VR]
    exact ⟨g,0,rfl,fun j c hj=>by simpa using h.wi.glb g j c (h2 j c hj)⟩
   cases hs
  cases hm
 cases hi
theorem grow_mut (h:RR w0 G0 G fr a w) {mu':Nat → Option (List AV)} (hmu:∀ g cs',mu' g=some cs' → fr.sg.mu g=some cs') {cs ys:List AV} {olds news zc:List Value} {el sz n k gc:Nat} (o1:VRs G cs olds) (n1:VRs G ys news)
 (o3:AV.nts cs=true) (n3:AV.nts ys=true) (o4:cs.all AV.isCell=true) (n4:ys.all AV.isCell=true) (ho:olds.length=n * sz) (hn:news.length=k * sz) (hz:zc.length=(gc - (n + k)) * sz) (hgc:n + k ≤ gc) :
 ∃ G',RR w0 G0 G' { fr with sg:={ fr.sg with mu:=Sim.upd mu' fr.sg.mn (some (cs ++ ys)),mn:=fr.sg.mn + 1 } } a { w with heap:=w.heap.push (.cells (olds ++ news ++ zc).toArray el),drawn:=w.drawn + 1 } ∧
  VR G' (.ms fr.sg.mn 0 (n + k) sz) (.slice (some ⟨w.heap.size,0,none⟩) (n + k) gc):=by
 have hg:Grew w { w with heap:=w.heap.push (.cells (olds ++ news ++ zc).toArray el),drawn:=w.drawn + 1 }:=grew_push w _ _
 have hB:BL { w with heap:=w.heap.push (.cells (olds ++ news ++ zc).toArray el),drawn:=w.drawn + 1 } w.heap.size ((olds ++ news) ++ zc):=⟨el,push_at w _ _⟩
 obtain ⟨f1,f2⟩:=h.wi.nofree (Nat.le_refl w.heap.size)
 have htot:((olds ++ news) ++ zc).length=gc * sz:=by
  have:(n + k) * sz ≤ gc * sz:=Nat.mul_le_mul_right _ hgc
  simp only [List.length_append,ho,hn,hz]
  rw [Nat.sub_mul,← Nat.add_mul]
  omega
 obtain ⟨G',k1,k2,k3,k4⟩:=(h.grow hg).mkmut (b:=w.heap.size) (mu':=mu') (fun id e=>by rw [f1] at e;cases e) (fun i e=>by rw [f1] at e;cases e) (fun t x e=>by rw [f1] at e;cases e) (fun g x e=>by rw [f1] at e;cases e) f2
  (fun hb=>absurd h.pres.size (by omega)) (Only.refl _ _) hB (VRs_append o1 n1) (by rw [AV.nts_iff] at o3 n3 ⊢;intro c hc;exact (List.mem_append.1 hc).elim (o3 c) (n3 c)) (by simp only [List.all_append,o4,n4];rfl)
  (fun g cs' hg=>⟨hmu g cs' hg,by rw [f1];simp⟩)
 refine ⟨G',k1,?_⟩
 simp only [VR]
 exact ⟨w.heap.size,_,gc,rfl,k4,hgc,by rw [htot];omega⟩
theorem VR_nilS {G:Gh} {sz:Nat} {b:AV} {u:Value} (h:VR G b u):VR G (nilS sz b) u:=by
 unfold nilS
 split
 ·simp only [VR] at h ⊢
  exact ⟨none,0,h.1,Nat.le_refl _,fun _ hx=>(by cases hx),rfl,rfl⟩
 exact h
theorem sim_appm (h:RR w0 G0 G fr a w) {t ty sz by_:Nat} (ht:mApp P t sz by_=true) {base src av:AV} {u v:Value} {s':Sg} (hb:VR G base u) (hv:VR G src v) (he:appmOf sz by_ fr.sg src base=some (av,s')) :
 ∃ x w',(Builtin.append_ #[t,t] ty #[u,v]).run P w=.ok x w' ∧ ∃ G',RR w0 G0 G' { fr with sg:=s' } a w' ∧ VR G' av x:=by
 unfold mApp at ht
 split at ht
 ·rename_i e hu
  split at ht
  ·rename_i ie hie
   simp only [Bae,beq_iff_eq,Dte] at ht
   obtain ⟨⟨⟨rfl,rfl⟩,hbp⟩,hz⟩:=ht
   split at hz
   ·rename_i z hz0
    simp only [beq_iff_eq] at hz
    have hal:∀ o,w.drew.alloc o={ w with heap:=w.heap.push o,drawn:=w.drawn + 1 }:=fun _=>rfl
    cases base with
    | ms g off len sz' =>
      simp only [appmOf] at he
      split at he
      ·rename_i e0
       obtain ⟨rfl,rfl⟩:=e0
       simp only [Obe] at he
       obtain ⟨⟨k,ys⟩,hsrc,cs,hcs,he⟩:=he
       dsimp only at he
       split at he
       ·rename_i hc
        obtain ⟨hcl,hbound⟩:=hc
        obtain ⟨xa,xcap,us,rfl,s1,s2,s3,s4,s5,s6,s7⟩:=src_vals h.wi hsrc hv
        simp only [VR] at hb
        obtain ⟨b,room,cap,rfl,d1,d2,d3⟩:=hb
        split at he
        ·rename_i hk0
         subst hk0
         simp only [Oie,Pie] at he
         obtain ⟨rfl,rfl⟩:=he
         refine ⟨_,w,?_,G,h,by simp only [VR];exact ⟨b,room,cap,rfl,d1,d2,d3⟩⟩
         cases xa <;> simp [Builtin.append_,run_underlying hu,sizeOf,typeInfo,hie,Builtin.lenOf,d2,Builtin.firstCells,loadCells,loadCellsFrom,storeCells]
        rename_i hk0
        simp only [Oie,Pie] at he
        obtain ⟨rfl,rfl⟩:=he
        obtain ⟨b',room',vs,rest,k1,k2,k3,k4,k5,k6,k7⟩:=h.wi.mus g cs hcs
        obtain ⟨rfl,rfl⟩:b=b' ∧ room=room':=by rw [d1] at k1;simpa using k1
        have hvl:vs.length=len * ie.size:=by rw [VRs_length k4,hcl]
        have nlen:us.length=k * ie.size:=by rw [VRs_length s5,s2]
        obtain ⟨xad,rfl⟩:∃ ad,xa=some ad:=by
         cases xa with
         | none=>exact absurd (s6 rfl) hk0
         | some ad=>exact ⟨ad,rfl⟩
        obtain ⟨q1,n2⟩:=s7 xad rfl
        have hno:∀ o c,¬ G.K b o c:=fun o c hk=>by have:=h.wi.kow b o c hk;rw [k2] at this;exact this
        by_cases hroom:len + k ≤ cap
        ·have hmul:(len + k) * ie.size ≤ cap * ie.size:=Nat.mul_le_mul_right _ hroom
         rw [Nat.add_mul] at hmul
         have hle2:0 + len * ie.size + us.length ≤ (vs ++ rest).length:=by rw [nlen,k7];omega
         obtain ⟨w',g1,g2,g3⟩:=run_storeCells0 (P:=P) (o:=0 + len * ie.size) (vs:=us) k3 hle2 (VRs_cellV s5 s4)
         have e2:(vs ++ rest).take (0 + len * ie.size) ++ us ++ (vs ++ rest).drop (0 + len * ie.size + us.length)=(vs ++ us) ++ rest.drop us.length:=by
          rw [Nat.zero_add,← hvl,List.take_left',List.drop_append,List.drop_eq_nil_of_le (by omega),List.nil_append,Nat.add_sub_cancel_left]
          rfl
         rw [e2] at g3
         obtain ⟨G',r1,r2,r3,r4⟩:=h.mkmut (b:=b) (mu':=Sim.upd fr.sg.mu g none) (fun id e=>by rw [k2] at e;cases e) (fun i e=>by rw [k2] at e;cases e) (fun t x e=>by rw [k2] at e;cases e) (fun g x e=>by rw [k2] at e;cases e) hno
          (fun hb hf=>by have:=(h.pres.free b hb hf).2.1;rw [k2] at this;cases this) g2 g3 (VRs_append k4 s5) (by rw [AV.nts_iff] at k5 s3 ⊢;intro c hc;exact (List.mem_append.1 hc).elim (k5 c) (s3 c)) (by simp only [List.all_append,k6,s4];rfl)
          (fun g' cs' hg=>by
            simp only [Sim.upd] at hg
            split at hg
            ·cases hg
            rename_i hne
            exact ⟨hg,by rw [k2];intro e;cases e;exact hne rfl⟩)
         refine ⟨.slice (some ⟨b,0,none⟩) (len + k) cap,w',?_,G',r1,?_⟩
         ·have hf:=run_firstCells_some (P:=P) w ie.size k xad k xcap us nlen n2
          have g1':(storeCells ⟨b,len * ie.size,none⟩ us).run P w=.ok () w':=by simpa using g1
          simp [Builtin.append_,run_underlying hu,sizeOf,typeInfo,hie,Builtin.lenOf,hroom,hf,add_plain,g1']
         simp only [VR]
         refine ⟨b,_,cap,J,r4,hroom,?_⟩
         simp only [List.length_append,List.length_drop] at k7 ⊢
         omega
        have hgrow:cap < len + k:=by omega
        have hfit:Builtin.nextslicecap (len + k) cap * ie.bytes ≤ 281474976710656:=growslice_fits hgrow hbound
        have h63:((len + k:Nat):Int) ≤ 9223372036854775807:=by
         have:(len + k) * 1 ≤ (len + k) * ie.bytes:=Nat.mul_le_mul_left _ hbp
         omega
        have o2:∀ (j:Nat) x,vs[j]?=some x → w.cell? ((⟨b,0,none⟩:Addr).add j)=some x:=fun j x hx=>by
         rw [add_plain,k3.cell,Nat.zero_add,List.getElem?_append_left]
         ·exact hx
         rcases Nat.lt_or_ge j vs.length with h' | h'
         ·exact h'
         rw [List.getElem?_eq_none h'] at hx;cases hx
        have hgc:=grownCap_ge w (len + k) cap e
        have hrun:=run_append_grow w t ty e ie z hu hie hz0 ⟨b,0,none⟩ len cap vs hvl o2 xad k xcap us nlen n2 hgrow h63 hfit
        have e1:∀ (Z:Array Value),vs.toArray ++ us.toArray ++ Z=(vs ++ us ++ Z.toList).toArray:=fun Z=>Array.ext' (by simp)
        rw [hal,e1] at hrun
        obtain ⟨G',r1,r2⟩:=grow_mut h (mu':=Sim.upd fr.sg.mu g none) (el:=e) (gc:=grownCap w (len + k) cap e) (zc:=(Builtin.zeroCells z.cells (grownCap w (len + k) cap e - (len + k))).toList) (fun g' cs' hg=>by
         simp only [Sim.upd] at hg
         split at hg
         ·cases hg
         exact hg) k4 s5 k5 s3 k6 s4 hvl nlen (by rw [Array.length_toList,size_zeroCells,hz]) hgc
        exact ⟨_,_,hrun,G',r1,r2⟩
       cases he
      cases he
    | slice o sz' xs =>
      cases o <;> cases xs <;> simp only [appmOf,reduceCtorEq] at he
      split at he
      ·rename_i e0
       subst e0
       simp only [Obe] at he
       obtain ⟨⟨k,ys⟩,hsrc,he⟩:=he
       dsimp only at he
       split at he
       ·rename_i hbound
        obtain ⟨xa,xcap,us,rfl,s1,s2,s3,s4,s5,s6,s7⟩:=src_vals h.wi hsrc hv
        have hb0:=hb
        simp only [VR] at hb
        obtain ⟨sa,cap,rfl,d1,d2,d3,d4⟩:=hb
        have hc0:cap=0:=d4
        subst hc0
        split at he
        ·rename_i hk0
         subst hk0
         simp only [Oie,Pie] at he
         obtain ⟨rfl,rfl⟩:=he
         refine ⟨_,w,?_,G,h,hb0⟩
         cases sa <;> cases xa <;> simp [Builtin.append_,run_underlying hu,sizeOf,typeInfo,hie,Builtin.lenOf,Builtin.firstCells,loadCells,loadCellsFrom,storeCells]
        rename_i hk0
        simp only [Oie,Pie] at he
        obtain ⟨rfl,rfl⟩:=he
        have nlen:us.length=k * ie.size:=by rw [VRs_length s5,s2]
        obtain ⟨xad,rfl⟩:∃ ad,xa=some ad:=by
         cases xa with
         | none=>exact absurd (s6 rfl) hk0
         | some ad=>exact ⟨ad,rfl⟩
        obtain ⟨q1,n2⟩:=s7 xad rfl
        have hgrow:0 < 0 + k:=by omega
        have hfit:Builtin.nextslicecap (0 + k) 0 * ie.bytes ≤ 281474976710656:=growslice_fits hgrow (by simpa using hbound)
        have h63:((0 + k:Nat):Int) ≤ 9223372036854775807:=by
         have:k * 1 ≤ k * ie.bytes:=Nat.mul_le_mul_left _ hbp
         omega
        have hgc:=grownCap_ge w (0 + k) 0 e
        have e1:∀ (Z:Array Value),([]:List Value).toArray ++ us.toArray ++ Z=(([]:List Value) ++ us ++ Z.toList).toArray:=fun Z=>Array.ext' (by simp)
        have hrun:(Builtin.append_ #[t,t] ty #[.slice sa 0 0,.slice (some xad) k xcap]).run P w=.ok (.slice (some ⟨w.heap.size,0,none⟩) (0 + k) (grownCap w (0 + k) 0 e))
         { w with heap:=w.heap.push (.cells (([]:List Value) ++ us ++ (Builtin.zeroCells z.cells (grownCap w (0 + k) 0 e - (0 + k))).toList).toArray e),drawn:=w.drawn + 1 }:=by
         cases sa with
         | none =>
           simp only [Nat.zero_add] at *
           rw [run_append_nil w t ty e ie z hu hie hz0 xad k xcap us nlen n2 (by omega) h63 (by rw [nextslicecap_zero (by omega)] at hfit;exact hfit)]
           have e3:∀ (Z:Array Value),us.toArray ++ Z=(([]:List Value) ++ us ++ Z.toList).toArray:=fun Z=>Array.ext' (by simp)
           rw [hal,e3]
         | some ad =>
           rw [run_append_grow w t ty e ie z hu hie hz0 ad 0 0 [] (by simp) (fun j x hx=>by simp at hx) xad k xcap us nlen n2 hgrow h63 hfit,hal,e1]
        obtain ⟨G',r1,r2⟩:=grow_mut h (mu':=fr.sg.mu) (cs:=[]) (olds:=[]) (n:=0) (el:=e) (gc:=grownCap w (0 + k) 0 e) (zc:=(Builtin.zeroCells z.cells (grownCap w (0 + k) 0 e - (0 + k))).toList) (fun g' cs' hg=>hg) (by simp only [VRs]) s5 rfl s3 rfl s4 (by simp) nlen (by rw [Array.length_toList,size_zeroCells,hz]) hgc
        refine ⟨_,_,hrun,G',by simpa using r1,by simpa using r2⟩
       cases he
      cases he
    | _=>simp [appmOf] at he
   cases hz
  cases ht
 cases ht
end
end Go.Sim
namespace Go.Sim
open Go
def retV:List Value → Value
 | [v]=>v
 | l=>.tuple l.toArray
theorem TR_toTV {G:Gh} {res:List AV} {l:List Value} (h:VRs G res l):TR G (toTV res) (retV l):=by
 cases res with
 | nil=>simp only [VRs] at h;subst h;exact ⟨[],rfl,rfl⟩
 | cons r1 rs =>
   cases rs with
   | nil =>
     simp only [VRs] at h
     obtain ⟨v,r,rfl,h1,rfl⟩:=h
     exact h1
   | cons r2 rs =>
     have hl:=VRs_length h
     cases l with
     | nil=>simp at hl
     | cons v1 l =>
       cases l with
       | nil=>simp at hl
       | cons v2 l=>exact ⟨_,rfl,h⟩
structure Base (G:Gh):Prop where
 T:∀ t,G.T t=none
 loc:∀ b i,G.ow b ≠ .loc i
 tip:∀ b t e,G.ow b ≠ .tip t e
def Enters (P:Program) (f:Nat):Prop:=∃ fn,P.funcs[f]?=some fn ∧ fn.body.isSome=true ∧ fn.name ≠ "runtime.NumGoroutine"
def CallOK (P:Program) (call:Caller):Prop :=
 ∀ f args s res s',call f args s=some (res,s') → ∀ G w (vs:List Value),WI G s w → Base G → VRs G args vs → AV.nts args=true →
  Enters P f ∧ Calls P f vs.toArray w fun e w'=>∃ l G',e=.returned (retV l) ∧ WI G' s' w' ∧ Base G' ∧ VRs G' res l ∧ AV.nts res=true ∧ Pres w G G' w'
section
variable {P:Program} {w0:World} {G0 G:Gh} {fr:Fr} {a:Act} {w:World}
def Gh.base (G:Gh):Gh:={ G with T:=fun _=>none,ow:=fun k=>match G.ow k with | .loc _=>.free | .tip _ _=>.free | x=>x }
theorem base_ow {k:Nat}:G.base.ow k=(match G.ow k with | .loc _=>.free | .tip _ _=>.free | x=>x):=rfl
theorem base_Base:Base G.base:=by
 refine ⟨fun _=>rfl,fun b i=>?_,fun b t e=>?_⟩ <;> (rw [base_ow];cases G.ow b <;> simp)
theorem base_le:Gle G G.base:=⟨fun _ _ _ x=>x,fun b id h=>by rw [base_ow,h],fun _ _ x=>x,fun _ _ x=>x⟩
theorem WI.base {s:Sg} (h:WI G s w):WI G.base s w:=by
 have hR:∀ g x,Right G w x (.gt g) → Right G.base w x (.gt g):=fun g x r=>r.mono (fun _ e=>e) fun b e hb=>⟨by rw [base_ow,hb],rfl⟩
 have hobj:∀ b id,G.base.ow b=.obj id → G.ow b=.obj id:=by
  intro b id hb
  rw [base_ow] at hb
  cases hx:G.ow b <;> rw [hx] at hb <;> simp at hb ⊢ <;> exact hb
 refine h.upd base_le (fun _ _ _ _=>J) (fun _ _ _ x=>.inl x) ?_ ?_ ?_ ?_ (fun g hg=>hR g _ (h.gts g hg)) h.gn ?_ (fun b g hb=>⟨by rw [base_ow,hb],rfl⟩)
 ·intro b o c hk
  have:=h.kow b o c hk
  rw [base_ow]
  cases hx:G.ow b <;> rw [hx] at this <;> first | exact this | trivial
 ·intro id o ho
  obtain ⟨b,h1,h2⟩:=h.obj id o ho
  exact ⟨b,base_le.ob b id h1,OR_mono base_le rfl h2⟩
 ·intro id b b' h1 h2;exact h.obu id b b' (hobj b id h1) (hobj b' id h2)
 ·intro id b h1;exact h.obn id b (hobj b id h1)
 intro b hb
 refine h.owlt b fun e=>hb ?_
 rw [base_ow,e]
theorem RR.back (h:RR w0 G0 G fr a w) {G':Gh} {s':Sg} {w':World} (hw:WI G' s' w') (hB:Base G') (hp:Pres w G.base G' w') :
 ∃ G2,RR w0 G0 G2 { fr with sg:=s' } a w' ∧ (∀ av v,av.nt=true → VR G' av v → VR G2 av v) ∧ (∀ avs vs,AV.nts avs=true → VRs G' avs vs → VRs G2 avs vs):=by
 let G2:Gh:={ G' with T:=G.T,ow:=fun k=>match G.ow k with | .loc i=>.loc i | .tip t e=>.tip t e | _=>G'.ow k }
 have ow2:∀ k,G2.ow k=(match G.ow k with | .loc i=>.loc i | .tip t e=>.tip t e | _=>G'.ow k):=fun _=>rfl
 have hmine:∀ k,(∃ i,G.ow k=.loc i) ∨ (∃ t e,G.ow k=.tip t e) → k < w.heap.size ∧ G.base.ow k=.free:=by
  intro k hk
  refine ⟨h.wi.owlt k ?_,?_⟩
  ·rcases hk with ⟨i,e⟩ | ⟨t,x,e⟩ <;> rw [e] <;> simp
  rw [base_ow];rcases hk with ⟨i,e⟩ | ⟨t,x,e⟩ <;> rw [e]
 have hkeep:∀ k,(∃ i,G.ow k=.loc i) ∨ (∃ t e,G.ow k=.tip t e) → w'.heap[k]?=w.heap[k]? ∧ G'.ow k=.free ∧ ∀ o,G'.K k o=G.K k o:=by
  intro k hk
  obtain ⟨h1,h2⟩:=hmine k hk
  exact hp.free k h1 h2
 have oth:∀ k,(¬ ∃ i,G.ow k=.loc i) → (¬ ∃ t e,G.ow k=.tip t e) → G2.ow k=G'.ow k:=by
  intro k h1 h2
  rw [ow2]
  cases hx:G.ow k with
  | loc i=>exact absurd ⟨i,hx⟩ h1
  | tip t e=>exact absurd ⟨t,e,hx⟩ h2
  | _=>rfl
 have from':∀ k x,G'.ow k=x → x ≠ .free → G2.ow k=x:=by
  intro k x hx hne
  rw [oth k (fun hh=>hne (by rw [← hx];exact (hkeep k (.inl hh)).2.1)) (fun hh=>hne (by rw [← hx];exact (hkeep k (.inr hh)).2.1))]
  exact hx
 have to':∀ k x,G2.ow k=x → (∀ i,x ≠ .loc i) → (∀ t e,x ≠ .tip t e) → G'.ow k=x:=by
  intro k x hx h1 h2
  rw [← oth k (fun ⟨i,e⟩=>h1 i (by rw [← hx,ow2,e])) (fun ⟨t,y,e⟩=>h2 t y (by rw [← hx,ow2,e]))]
  exact hx
 have le0:Gle G G':=base_le.trans hp.le
 have le':Gle G' G2:=⟨fun _ _ _ x=>x,fun k id hk=>from' k _ hk (by simp),fun _ _ x=>x,fun _ _ x=>x⟩
 have le:Gle G G2:=le0.trans le'
 have hT:Tle G G2:=fun _ _ x=>x
 refine ⟨G2,⟨?_,?_,?_,?_,h.nt,?_,DR_mono le _ _ h.df,?_⟩,fun av v hn hv=>VR_mono' le' av v (.inr hn) hv,fun avs vs hn hv=>VRs_mono' le' avs vs (.inr hn) hv⟩
 ·intro i tv hx
  obtain ⟨h1,h2⟩:=h.env i tv hx
  exact ⟨h1,TR_mono le hT (fun i _ _ k hk=>by rw [ow2,hk]) h2⟩
 ·intro i cs hx
  obtain ⟨b,vs,h1,h2,h3,h4⟩:=h.loc i cs hx
  exact ⟨b,vs,by rw [ow2,h1],h2.of_heap (hkeep b (.inl ⟨i,h1⟩)).1,VRs_mono' le cs vs (.inl hT) h3,h4⟩
 ·have hl:∀ k i,G2.ow k=.loc i → G.ow k=.loc i:=by
   intro k i hk
   rw [ow2] at hk
   cases hx:G.ow k with
   | loc j=>rw [hx] at hk;exact hk
   | tip t e=>rw [hx] at hk;cases hk
   | _=>rw [hx] at hk;exact absurd hk (hB.loc k i)
  intro i k k' h1 h2
  exact h.locu i k k' (hl k i h1) (hl k' i h2)
 ·intro t ht
  obtain ⟨b,off,len,cap,sz,cs,h1,h2,h3,h4⟩:=h.tips t ht
  exact ⟨b,off,len,cap,sz,cs,h1,by rw [ow2,h2],h3.of_heap (hkeep b (.inr ⟨t,_,h2⟩)).1,h4⟩
 ·refine hw.upd le' (fun _ _ _ _=>J) (fun _ _ _ x=>.inl x) ?_ ?_ ?_ ?_ ?_ hw.gn ?_ (fun b g hb=>⟨from' b _ hb (by simp),J⟩)
  ·intro k o c hk
   cases hx:G.ow k with
   | loc i =>
     have hk':G.K k o c:=by rw [← (hkeep k (.inl ⟨i,hx⟩)).2.2 o];exact hk
     have:=h.wi.kow k o c hk'
     rw [hx] at this
     exact this.elim
   | tip t e =>
     have hk':G.K k o c:=by rw [← (hkeep k (.inr ⟨t,e,hx⟩)).2.2 o];exact hk
     have:=h.wi.kow k o c hk'
     rw [hx] at this
     rw [ow2,hx]
     exact this
   | _=>rw [oth k (by rw [hx];simp) (by rw [hx];simp)];exact hw.kow k o c hk
  ·intro id o ho
   obtain ⟨b,h1,h2⟩:=hw.obj id o ho
   exact ⟨b,from' b _ h1 (by simp),OR_mono le' rfl h2⟩
  ·intro id k k' h1 h2
   exact hw.obu id k k' (to' k _ h1 (by simp) (by simp)) (to' k' _ h2 (by simp) (by simp))
  ·intro id k h1
   exact hw.obn id k (to' k _ h1 (by simp) (by simp))
  ·intro g hg
   exact (hw.gts g hg).mono (fun _ e=>e) fun b e hb=>⟨from' b _ hb (by simp),rfl⟩
  intro k hk
  by_cases hm:(∃ i,G.ow k=.loc i) ∨ (∃ t e,G.ow k=.tip t e)
  ·exact Nat.lt_of_lt_of_le (hmine k hm).1 hp.size
  refine hw.owlt k fun e=>hk ?_
  rw [oth k (fun x=>hm (.inl x)) (fun x=>hm (.inr x))]
  exact e
 have h0:=h.pres
 refine ⟨hp.os.trans h0.os,hp.tape.trans h0.tape,hp.output.trans h0.output,Nat.le_trans h0.size hp.size,?_,h0.le.trans le,fun b hb hf=>let ⟨h1,h2⟩:=h0.hid b hb hf;let ⟨k1,k2⟩:=hp.hid b (Nat.lt_of_lt_of_le hb h0.size) h2;⟨k1.trans h1,k2⟩⟩
 intro b hb hf
 obtain ⟨h1,h2,h3⟩:=h0.free b hb hf
 obtain ⟨k1,k2,k3⟩:=hp.free b (Nat.lt_of_lt_of_le hb h0.size) (by rw [base_ow,h2])
 exact ⟨k1.trans h1,by rw [oth b (by rw [h2];simp) (by rw [h2];simp)];exact k2,fun o=>(k3 o).trans (h3 o)⟩
theorem run_callFunc {f:Nat} {args:Array Value} (h:Enters P f):(callFunc f args).run P w=.ok (.enter f args) w:=by
 obtain ⟨fn,h1,h2,h3⟩:=h
 cases hb:fn.body with
 | none=>rw [hb] at h2;cases h2
 | some c=>simp [callFunc,h1,h3,hb]
def mCallee:AO → Callee → Bool
 | x,.value y=>mO x y
 | _,_=>false
theorem sim_call (h:RR w0 G0 G fr a w) {call:Caller} (hc:CallOK P call) {f:AO} {as:List AO} {c:Call} {ty:Nat} (hf:mCallee f c.callee=true) (has:mOs as c.args.toList=true) {g:AV} {l:List AV} {res:List AV} {s':Sg}
 (e1:evV fr.env f=some g) (e2:evVs fr.env as=some l) (e3:callOf call l fr.sg g=some (res,s')) :
 ∃ f args,(do let d ← resolve a.eval c ty;invoke d.target d.args:Sem Next).run P w=.ok (.enter f args) w ∧
  Calls P f args w fun e w''=>∃ v,e=.returned v ∧ ∃ G',RR w0 G0 G' { fr with sg:=s' } a w'' ∧ TR G' (toTV res) v:=by
 cases hcal:c.callee with
 | value y =>
   rw [hcal] at hf
   have hg:=h.evV hf e1
   have hl:=h.evVs has e2
   cases g with
   | fn k fs cs =>
     simp only [callOf] at e3
     simp only [VR] at hg
     obtain ⟨va,vb,hv,h1,h2⟩:=hg
     have hargs:VRs G (fs ++ l ++ cs) (va ++ c.args.toList.map a.eval ++ vb):=VRs_append (VRs_append h1 hl) h2
     have hargs':=VRs_mono' base_le _ _ (.inr (AV.nts_ers _)) (VRs_er _ _ hargs)
     obtain ⟨hen,hcalls⟩:=hc k _ fr.sg res s' e3 G.base w _ h.wi.base base_Base hargs' (AV.nts_ers _)
     refine ⟨k,(va ++ c.args.toList.map a.eval ++ vb).toArray,?_,hcalls.mono ?_⟩
     ·have e:va.toArray ++ c.args.map a.eval ++ vb.toArray=(va ++ c.args.toList.map a.eval ++ vb).toArray:=Array.ext' (by simp)
      simp only [resolve,hcal,hv,Deferred.ofValue,Sem.run_bind,Sem.run_pure,Result.andThen_ok,invoke]
      rw [e]
      exact run_callFunc hen
     rintro e w'' ⟨l',G',rfl,q1,q2,q3,q4,q5⟩
     obtain ⟨G2,r1,r2,r3⟩:=h.back q1 q2 q5
     exact ⟨_,rfl,G2,r1,TR_toTV (r3 _ _ q4 q3)⟩
   | _=>simp [callOf] at e3
 | _=>rw [hcal] at hf;simp [mCallee] at hf
theorem sim_dfr (h:RR w0 G0 G fr a w) {f:AO} {as:List AO} {c:Call} {ty:Nat} (hf:mCallee f c.callee=true) (has:mOs as c.args.toList=true) {g:AV} {l:List AV} {fr':Fr}
 (e1:evV fr.env f=some g) (e2:evVs fr.env as=some l) (e3:dfrOf fr l g=some fr') :
 ∃ d,(resolve a.eval c ty).run P w=.ok d w ∧ RR w0 G0 G fr' { a with defers:=d :: a.defers } w:=by
 cases hcal:c.callee with
 | value y =>
   rw [hcal] at hf
   have hg:=h.evV hf e1
   have hl:=h.evVs has e2
   cases g with
   | fn k fs cs =>
     simp only [dfrOf,Oie] at e3
     subst e3
     simp only [VR] at hg
     obtain ⟨va,vb,hv,h1,h2⟩:=hg
     have hargs:VRs G (fs ++ l ++ cs) (va ++ c.args.toList.map a.eval ++ vb):=VRs_append (VRs_append h1 hl) h2
     refine ⟨{ target:=.fn (.func k) vb.toArray,args:=va.toArray ++ c.args.map a.eval },?_,?_⟩
     ·simp only [resolve,hcal,hv,Deferred.ofValue,Sem.run_pure]
     refine ⟨h.env,h.loc,h.locu,h.tips,h.nt,h.wi,?_,h.pres⟩
     refine ⟨_,_,vb.toArray,J,J,?_,AV.nts_ers _,h.df⟩
     have:=VRs_er _ _ hargs
     simpa using this
   | _=>simp [dfrOf] at e3
 | _=>rw [hcal] at hf;simp [mCallee] at hf
theorem sim_into (h:RR w0 G0 G fr a w) {call:Caller} (hc:CallOK P call) {k:Nat} {l:List AV} {vs:List Value} {res:List AV} {s':Sg} (hv:VRs G l vs) (e3:call k (AV.ers l) fr.sg=some (res,s')) :
 (callFunc k vs.toArray).run P w=.ok (.enter k vs.toArray) w ∧ Calls P k vs.toArray w fun e w''=>∃ v,e=.returned v ∧ ∃ G',RR w0 G0 G' { fr with sg:=s' } a w'' ∧ TR G' (toTV res) v:=by
 have hargs':=VRs_mono' base_le _ _ (.inr (AV.nts_ers _)) (VRs_er _ _ hv)
 obtain ⟨hen,hcalls⟩:=hc k _ fr.sg res s' e3 G.base w _ h.wi.base base_Base hargs' (AV.nts_ers _)
 refine ⟨run_callFunc hen,hcalls.mono ?_⟩
 rintro e w'' ⟨l',G',rfl,q1,q2,q3,q4,q5⟩
 obtain ⟨G2,r1,r2,r3⟩:=h.back q1 q2 q5
 exact ⟨_,rfl,G2,r1,TR_toTV (r3 _ _ q4 q3)⟩
def mCK (P:Program) (t:TypeId):CK → Bool
 | .b=>(match P.underlying t with
   | some .bool=>true
   | _=>false)
 | .i=>(match P.underlying t with
   | some (.int _)=>true
   | _=>false)
 | .s=>(match P.underlying t with
   | some .string=>true
   | _=>false)
def mCKs (P:Program):Nat → List CK → List Field → Bool
 | _,[],[]=>true
 | n,k :: ks,f :: fs=>f.offset == n && f.name != "_" && mCK P f.type k && mCKs P (n + 1) ks fs
 | _,_,_=>false
def mAeq (P:Program) (t:TypeId) (ks:List CK):Bool :=
 (match P.underlying t with
 | some (.struct fs)=>mCKs P 0 ks fs.toList
 | _=>false) && !P.stoodInHeld t && !P.eqGuardType P.depth t
def mIxv (P:Program) (t:TypeId) (len sz:Nat) (n:Option Nat):Bool :=
 match P.underlying t with
 | some (.array l e)=>l == len && mN P e n && szOf P e == some sz
 | _=>false
def mS2b (P:Program) (t t':TypeId):Bool :=
 (P.underlying t).isSome && (match P.underlying t' with
 | some (.slice e)=>(match P.underlying e with
   | some (.int .u8)=>true
   | _=>false)
 | _=>false)
def notIface (P:Program) (t:TypeId):Bool :=
 match P.underlying t with
 | some (.interface _)=>false
 | some _=>true
 | none=>false
def mNilI (P:Program) (t:TypeId) (y:Operand):Bool :=
 (match P.underlying t with
 | some (.interface _)=>true
 | _=>false) && (match y with
 | .const .nilIface=>true
 | _=>false)
def mMeth (P:Program) (name:String) (t f:Nat):Bool :=
 match P.info? t with
 | some i=>(match i.methods.find? (·.name == name) with
   | some m=>m.path.isEmpty && (match m.func with
     | some (g,pr)=>g == f && (match P.underlying t with
       | some (.pointer _)=>pr
       | some _=>!pr
       | none=>false)
     | none=>false)
   | none=>false)
 | none=>false
def mNilS (P:Program) (t:TypeId) (y:Operand):Bool :=
 (match P.underlying t with
 | some (.slice _)=>true
 | _=>false) && (match y with
 | .const (.slice none 0 0)=>true
 | _=>false)
def mOp (P:Program) (x:AOp) (o:Op):Bool :=
 match x with
 | .mv x=>(match o with
   | .move y=>mO x y
   | .assign y=>mO x y
   | _=>false)
 | .pick c p q=>(match o with
   | .pick c' p' q'=>mO c c' && mO p p' && mO q q'
   | _=>false)
 | .alloc _ z=>(match o with
   | .alloc t=>(match zeroOf P t with
     | some v=>coks z v.cells.toList && z.all AV.isCell
     | none=>false)
   | _=>false)
 | .box _ x=>(match o with
   | .box _ y=>mO x y
   | _=>false)
 | .build z ps=>(match o with
   | .build t qs=>mBuild P t z ps qs.toList && z.all AV.isCell
   | _=>false)
 | .bsl sz ps=>(match o with
   | .buildSlice t len qs=>mBsl P t len sz ps qs.toList
   | _=>false)
 | .ld _ n x=>(match o with
   | .load t y=>mO x y && mN P t n
   | _=>false)
 | .st _ n x y=>(match o with
   | .store t x' y'=>mO x x' && mO y y' && szOf P t == some n
   | _=>false)
 | .nck x=>(match o with
   | .nilCheck y=>mO x y
   | _=>false)
 | .bin op x y=>(match o with
   | .binOp op' _ x' y' _=>decide (op=op') && mO x x' && mO y y'
   | _=>false)
 | .beq ng x y=>(match o with
   | .binOp op' t x' y' _=>decide (op'=(if ng then .neq else .eql)) && mO x x' && mO y y' && (match P.underlying t with
     | some .bool=>true
     | _=>false)
   | _=>false)
 | .peq ng x y=>(match o with
   | .binOp op' t x' y' _=>decide (op'=(if ng then .neq else .eql)) && mO x x' && mO y y' && (match P.underlying t with
     | some (.pointer _)=>true
     | _=>false)
   | _=>false)
 | .mmx mx x y=>(match o with
   | .call c=>(match c.callee,c.args.toList with
     | .builtin .max,[x',y']=>mO x x' && mO y y' && mx
     | .builtin .min,[x',y']=>mO x x' && mO y y' && !mx
     | _,_=>false)
   | _=>false)
 | .aeq ng ks x y=>(match o with
   | .binOp op' t x' y' _=>decide (op'=(if ng then .neq else .eql)) && mO x x' && mO y y' && mAeq P t ks
   | _=>false)
 | .unot x=>(match o with
   | .unOp .not _ y=>mO x y
   | _=>false)
 | .uneg x=>(match o with
   | .unOp .neg _ y=>mO x y
   | _=>false)
 | .cvt k x=>(match o with
   | .convert s d y=>mO x y && (P.underlying s).isSome && (match P.underlying d with
     | some (.int k')=>decide (k=k')
     | _=>false)
   | _=>false)
 | .mkf f fs cs=>(match o with
   | .makeFunc (.func f') fs' cs'=>f == f' && mOs fs fs'.toList && mOs cs cs'.toList
   | _=>false)
 | .mkm _=>(match o with
   | .makeMap _ none=>true
   | _=>false)
 | .fa off x=>(match o with
   | .fieldAddr t y i=>mO x y && (match fieldOf P t i with
     | some f=>f.offset == off && (match szOf P f.type with
       | some s=>decide (s ≠ 0)
       | none=>false)
     | none=>false)
   | _=>false)
 | .fld off n x=>(match o with
   | .field t y i=>mO x y && (match fieldOf P t i with
     | some f=>f.offset == off && mN P f.type n
     | none=>false)
   | _=>false)
 | .ia sz x i=>(match o with
   | .indexAddr t y k=>mO x y && mO i k && elemSz P t == some sz
   | _=>false)
 | .iaa len sz x i=>(match o with
   | .indexAddr t y k=>mO x y && mO i k && arrOf P t == some (len,sz)
   | _=>false)
 | .ixs x i=>(match o with
   | .index t y k=>mO x y && mO i k && (match P.underlying t with
     | some .string=>true
     | _=>false)
   | _=>false)
 | .lk kk z ok m k=>(match o with
   | .lookup t m' k' ok'=>mO m m' && mO k k' && (ok == ok') && mLk P t kk z
   | _=>false)
 | .mu kk m k v=>(match o with
   | .mapUpdate t m' k' v'=>mO m m' && mO k k' && mO v v' && mMu P t kk
   | .insert t m' k' v'=>mO m m' && mO k k' && mO v v' && mMu P t kk
   | _=>false)
 | .dl kk m k=>(match o with
   | .call c=>(match c.callee,c.args.toList,c.argTypes.toList with
     | .builtin .delete,[m',k'],[t,_]=>mO m m' && mO k k' && mMu P t kk
     | _,_,_=>false)
   | _=>false)
 | .ext x i=>(match o with
   | .extract y j=>mO x y && i == j
   | _=>false)
 | .call f as=>(match o with
   | .call c=>mCallee f c.callee && mOs as c.args.toList
   | _=>false)
 | .len st x=>(match o with
   | .call c=>(match c.callee,c.args.toList,c.argTypes.toList with
     | .builtin .len,[y],[t]=>mO x y && (match P.underlying t with
       | some .string=>st
       | some (.slice _)=>!st
       | _=>false)
     | _,_,_=>false)
   | _=>false)
 | .app sz by_ s x=>(match o with
   | .call c=>(match c.callee,c.args.toList,c.argTypes.toList with
     | .builtin .append,[s',x'],[t,t']=>mO s s' && mO x x' && t == t' && mApp P t sz by_
     | _,_,_=>false)
   | _=>false)
 | .sl sz x lo hi mx=>(match o with
   | .slice t x' lo' hi' mx'=>mO x x' && mOo lo lo' && mOo hi hi' && mOo mx mx' && (!mx.isSome || hi.isSome) && elemSz P t == some sz
   | _=>false)
 | .sls x lo hi=>(match o with
   | .slice t x' lo' hi' none=>mO x x' && mOo lo lo' && mOo hi hi' && (match P.underlying t with
     | some .string=>true
     | _=>false)
   | _=>false)
 | .dfr f as=>(match o with
   | .defer c=>mCallee f c.callee && mOs as c.args.toList
   | _=>false)
 | .ldo _ _ n x=>(match o with
   | .load t y=>mO x y && mN P t n
   | _=>false)
 | .sts _ n a x=>(match o with
   | .store t a' x'=>mO a a' && mO x x' && szOf P t == some n
   | _=>false)
 | .tas t z ok x=>(match o with
   | .typeAssert y _ t' ok'=>mO x y && t == t' && (ok == ok') && notIface P t && (match zeroOf P t with
     | some v=>cok z v
     | none=>false)
   | _=>false)
 | .inv tb x as=>(match o with
   | .call c=>(match c.callee with
     | .invoke recv name=>mO x recv && mOs as c.args.toList && tb.all fun q=>mMeth P name q.1 q.2
     | _=>false)
   | _=>false)
 | .callq _ f as=>(match o with
   | .call c=>mCallee f c.callee && mOs as c.args.toList
   | _=>false)
 | .wop k xs=>(match k,xs,o with
   | .mks sz by_ z,[x,y],.makeSlice t x' y'=>mO x x' && mO y y' && mMks P t sz by_ z
   | .ixv len sz n,[x,i],.index t y k=>mO x y && mO i k && mIxv P t len sz n
   | .snl ng,[x],.binOp op' t x' y' _=>decide (op'=(if ng then .neq else .eql)) && mO x x' && mNilS P t y'
   | .mki t,[x],.makeInterface t' y=>t == t' && mO x y && notIface P t
   | .ifn ng,[x],.binOp op' t x' y' _=>decide (op'=(if ng then .neq else .eql)) && mO x x' && mNilI P t y'
   | .stop,_,_=>true
   | .ldz n,[x],.load t y=>mO x y && mN P t n
   | .bldz z ps,xs,.build t qs=>mBuild P t z (zipP ps xs) qs.toList && z.all AV.isCell
   | .ldv n,[x],.load t y=>mO x y && mN P t n
   | .s2b,[x],.convert t t' y=>mO x y && mS2b P t t'
   | .bslm sz len,ps,.buildSlice t len' qs=>len == len' && mBsl P t len' sz ps qs.toList
   | .gad g sz cs,[i],.indexAddr t (.global g') k=>g == g' && mO i k && mGad P t sz cs
   | .frz _,[x],.move y=>mO x y
   | .frz _,[x],.assign y=>mO x y
   | .appm sz by_,[s,x],.call c=>(match c.callee,c.args.toList,c.argTypes.toList with
     | .builtin .append,[s',x'],[t,t']=>mO s s' && mO x x' && t == t' && mApp P t sz by_
     | _,_,_=>false)
   | .cpy sz,[s,x],.call c=>(match c.callee,c.args.toList,c.argTypes.toList with
     | .builtin .copy,[s',x'],[t,_]=>mO s s' && mO x x' && (match P.underlying t with
       | some (.slice e)=>szOf P e == some sz
       | _=>false)
     | _,_,_=>false)
   | _,_,_=>false)
end
end Go.Sim
namespace Go.Sim
open Go
section
variable {P:Program} {w0:World} {G0 G:Gh} {fr:Fr} {a:Act} {w:World}
theorem good_ex {tv:Option TV} {fr':Fr} {r:Result Next} (h:∃ v w',r=.ok (.value v) w' ∧ ∃ G',RR w0 G0 G' fr' a w' ∧ ∀ x,tv=some x → TR G' x v):Good1 P w0 G0 a fr' tv r:=by
 obtain ⟨v,w',rfl,h⟩:=h
 exact h
theorem run_v {s:Sem Value} {v:Value} {w':World} (h:s.run P w=.ok v w'):(do pure (.value (← s)):Sem Next).run P w=.ok (.value v) w':=by
 simp [h]
theorem run_u {s:Sem Unit} {w':World} (h:s.run P w=.ok () w'):(do s;pure .skip:Sem Next).run P w=.ok .skip w':=by
 simp [h]
theorem asB_R {v:AV} {u:Value} {b:Bool} (h:VR G v u) (hb:asB v=some b):u=.bool b:=by
 cases v with
 | lit q =>
   cases q <;> simp only [asB,reduceCtorEq,Oie] at hb
   subst hb
   simp only [VR] at h
   exact h.1
 | _=>simp [asB] at hb
theorem asN_R {v:AV} {u:Value} {n:Int} (h:VR G v u) (hb:asN v=some n):∃ k,u=.int k n:=by
 cases v with
 | lit q =>
   cases q <;> simp only [asN,reduceCtorEq,Oie] at hb
   subst hb
   simp only [VR] at h
   exact ⟨_,h.1⟩
 | _=>simp [asN] at hb
theorem isNilP_R {p:TV} {u:Value} {b:Bool} (h:TR G p u) (hb:isNilP p=some b):∃ q,u=.pointer q ∧ q.isNone=b:=by
 cases p with
 | loc i o=>obtain ⟨k,rfl,_⟩:=h;simp only [isNilP,Oie] at hb;subst hb;exact ⟨_,rfl,rfl⟩
 | tup vs=>simp [isNilP] at hb
 | und=>simp [isNilP] at hb
 | val v =>
   cases v with
   | ptr i o=>simp only [TR,VR] at h;obtain ⟨k,rfl,_⟩:=h;simp only [isNilP,Oie] at hb;subst hb;exact ⟨_,rfl,rfl⟩
   | cptr i o=>simp only [TR,VR] at h;obtain ⟨k,m,rfl,_⟩:=h;simp only [isNilP,Oie] at hb;subst hb;exact ⟨_,rfl,rfl⟩
   | lit q =>
     cases q with
     | pointer q =>
       cases q with
       | none=>simp only [isNilP,Oie] at hb;subst hb;simp only [TR,VR] at h;exact ⟨none,h.1,rfl⟩
       | some q=>simp [isNilP] at hb
     | _=>simp [isNilP] at hb
   | mp g o=>simp only [TR,VR] at h;obtain ⟨k,m,rfl,_⟩:=h;simp only [isNilP,Oie] at hb;subst hb;exact ⟨_,rfl,rfl⟩
   | _=>simp [isNilP] at hb
theorem part_lit {t:TypeId} {k:CK} (hk:mCK P t k=true) {us:List Value} {i:Nat} {u:Value} (hu:us[i]?=some u):(part t us.toArray i).run P w=.ok u w:=by
 have hag:aggOf P t=some false:=by
  unfold aggOf
  cases k <;> simp only [mCK] at hk <;> (split at hk <;> first | (rename_i e;rw [e];done) | cases hk)
 simp [part,run_aggOf hag,hu]
theorem ceq_ok {t:TypeId} {k:CK} (hk:mCK P t k=true) {a b:AV} {r:Bool} (hc:ceq k a b=some r) {u v:Value} (h1:VR G a u) (h2:VR G b v) (d:Nat):(Op.equalIn (d + 1) t u v).run P w=.ok r w:=by
 unfold ceq at hc
 split at hc
 ·simp only [Oie] at hc
  subst hc
  simp only [VR] at h1 h2
  rw [h1.1,h2.1]
  simp only [mCK] at hk
  split at hk
  ·rename_i e;exact run_equalIn_bool w d t _ _ e
  cases hk
 ·split at hc
  ·rename_i hkk
   subst hkk
   simp only [Oie] at hc
   subst hc
   simp only [VR] at h1 h2
   rw [h1.1,h2.1]
   simp only [mCK] at hk
   split at hk
   ·rename_i e;rw [run_equalIn_int w d t _ _ _ _ e];simp [Bool.beq_eq_decide_eq]
   cases hk
  cases hc
 ·simp only [Oie] at hc
  subst hc
  simp only [VR] at h1 h2
  rw [h1.1,h2.1]
  simp only [mCK] at hk
  split at hk
  ·rename_i s s' _ _ e
   rw [run_equalIn_string w d t _ _ e]
   congr 1
   rw [Bool.eq_iff_iff]
   simp only [beq_iff_eq,Dte]
   constructor
   ·intro hh
    exact ByteArray.ext (Array.ext' (by simpa [ByteArray.toList_eq] using hh))
   intro hh;rw [hh]
  cases hk
 cases hc
theorem eqFields_ok {d:Nat} {us vs:List Value}:∀ (ks:List CK) (fs:List Field) (n:Nat) (as bs:List AV) (r:Bool),mCKs P n ks fs=true → ceqs ks as bs=some r →
 VRs G as (us.drop n) → VRs G bs (vs.drop n) → (Op.eqFields (d + 1) us.toArray vs.toArray fs).run P w=.ok r w
 | [],[],n,as,bs,r,_,hc,_,_=>by
   cases as <;> cases bs <;> simp only [ceqs,reduceCtorEq,Oie] at hc
   subst hc
   simp [Op.eqFields]
 | [],_ :: _,n,as,bs,r,hm,hc,_,_=>by simp [mCKs] at hm
 | _ :: _,[],n,as,bs,r,hm,hc,_,_=>by simp [mCKs] at hm
 | k :: ks,f :: fs,n,as,bs,r,hm,hc,h1,h2=>by
   cases as with
   | nil=>simp [ceqs] at hc
   | cons x as =>
     cases bs with
     | nil=>simp [ceqs] at hc
     | cons y bs =>
       simp only [ceqs,Obe,Oie] at hc
       obtain ⟨r1,hr1,r2,hr2,rfl⟩:=hc
       simp only [mCKs,Bae,beq_iff_eq,bne_iff_ne,ne_eq] at hm
       obtain ⟨⟨⟨ho,hn⟩,hk⟩,hm⟩:=hm
       simp only [VRs] at h1 h2
       obtain ⟨u,us',e1,g1,g2⟩:=h1
       obtain ⟨v,vs',e2,g3,g4⟩:=h2
       have gu:us[n]?=some u:=by have:=congrArg (·[0]?) e1;simpa using this
       have gv:vs[n]?=some v:=by have:=congrArg (·[0]?) e2;simpa using this
       have du:us.drop (n + 1)=us':=by have:=congrArg List.tail e1;simpa using this
       have dv:vs.drop (n + 1)=vs':=by have:=congrArg List.tail e2;simpa using this
       have ih:=eqFields_ok (d:=d) ks fs (n + 1) as bs r2 hm hr2 (by rw [du];exact g2) (by rw [dv];exact g4)
       simp only [Op.eqFields,ne_eq,hn,not_false_eq_true,if_true,ho,Sem.run_bind,part_lit hk gu,part_lit hk gv,Result.andThen_ok,ceq_ok hk hr1 g1 g3 d]
       cases r1 with
       | false=>simp
       | true=>simpa using ih
theorem ldo_ld {tk:Bool} {fr:Fr} {n:Option Nat} {q p:TV} {v:AV} (h:ldoAt tk fr.sg n q p=some v):ldAt fr true n p=some v:=by
 unfold ldoAt at h
 split at h
 ·split at h
  ·cases h
  split at h
  ·rename_i e
   subst e
   simpa [ldAt] using h
  cases h
 ·split at h
  ·split at h
   ·rename_i e
    subst e
    simpa [ldAt] using h
   cases h
  cases h
 cases h
theorem qres_some {e:Nat → Option TV} {ks:List Nat} {fr:Fr} {r:List AV × Sg} {x:Option TV × Fr} (h:qres e ks fr r=some x):keeps e fr.sg r.2 ks ∧ x=(some (toTV r.1),{ fr with sg:=r.2 }):=by
 unfold qres at h
 split at h
 ·rename_i hk;cases h;exact ⟨hk,rfl⟩
 cases h
theorem run_meth {name:String} {t f:Nat} (hm:mMeth P name t f=true) (v:Value) (d:Nat):(method (d + 1) t v name).run P w=.ok (f,v) w:=by
 unfold mMeth at hm
 split at hm
 ·rename_i i hi
  split at hm
  ·rename_i m hf
   simp only [Bae] at hm
   obtain ⟨hp,hm⟩:=hm
   have hp':m.path.toList=[]:=by simpa using hp
   split at hm
   ·rename_i g pr hfn
    simp only [Bae,beq_iff_eq] at hm
    obtain ⟨rfl,hm⟩:=hm
    split at hm
    ·rename_i el hu
     subst hm
     simp [method,typeInfo,hi,hf,hp',follow,hfn,receiverAt,run_underlying hu,Place.get]
    ·rename_i d hne hu
     have hpr:pr=false:=by simpa using hm
     subst hpr
     have key:∀ wr,(receiverAt t (.val v) false wr).run P w=.ok v w:=by
      intro wr
      unfold receiverAt
      simp only [Sem.run_bind,run_underlying hu,Result.andThen_ok]
      cases d <;> first | (exact absurd rfl (hne _)) | simp [Place.get]
     simp [method,typeInfo,hi,hf,hp',follow,hfn,key]
    cases hm
   cases hm
  cases hm
 cases hm
theorem mNilI_inv {t:TypeId} {y:Operand} (h:mNilI P t y=true):(∃ el,P.underlying t=some (.interface el)) ∧ y=.const .nilIface:=by
 unfold mNilI at h
 simp only [Bae] at h
 obtain ⟨h1,h2⟩:=h
 constructor
 ·split at h1
  ·exact ⟨_,by assumption⟩
  cases h1
 split at h2
 ·rfl
 cases h2
theorem sim_ixv {t:TypeId} {len sz:Nat} {n:Option Nat} (hm:mIxv P t len sz n=true) {p v:AV} {x:Value} {k:IntKind} {j:Int} (hp:VR G p x) (hv:ixvOf len sz n j p=some v) :
 ∃ u,(Instr.index t x (.int k j)).run P w=.ok u w ∧ VR G v u:=by
 unfold mIxv at hm
 split at hm
 ·rename_i l e hu
  simp only [Bae,beq_iff_eq] at hm
  obtain ⟨⟨rfl,h3⟩,h4⟩:=hm
  cases p with
  | agg cs =>
    simp only [ixvOf] at hv
    split at hv
    ·rename_i hr
     simp only [VR] at hp
     obtain ⟨vs,rfl,hvs,hall⟩:=hp
     cases n with
     | none =>
       simp only [mN,beq_iff_eq] at h3
       simp only [rd] at hv
       obtain ⟨u,g1,g2⟩:=VRs_get hvs _ v hv
       refine ⟨u,?_,g2⟩
       simp [Instr.index,asIntOf,run_underlying hu,hr.1,hr.2,part,run_aggOf h3,run_szOf h4,g1]
     | some n =>
       simp only [mN,Bae,beq_iff_eq] at h3
       simp only [rd] at hv
       split at hv
       ·rename_i hle
        simp only [Oie] at hv
        subst hv
        refine ⟨.agg (vs.toArray.extract (j.toNat * sz) (j.toNat * sz + n)),?_,?_⟩
        ·have e2:sz=n:=by rw [h3.2] at h4;simpa using h4.symm
         subst e2
         simp [Instr.index,asIntOf,run_underlying hu,hr.1,hr.2,part,run_aggOf h3.1,run_szOf h4]
        simp only [VR]
        refine ⟨(vs.drop (j.toNat * sz)).take n,?_,VRs_take (VRs_drop hvs _) _,?_⟩
        ·congr 1
         apply Array.ext'
         simp [List.extract_eq_take_drop]
        rw [List.all_eq_true] at hall ⊢
        exact fun c hc=>hall c (List.mem_of_mem_drop (List.mem_of_mem_take hc))
       cases hv
    cases hv
  | _=>simp [ixvOf] at hv
 cases hm
theorem mNilS_inv {t:TypeId} {y:Operand} (h:mNilS P t y=true):(∃ el,P.underlying t=some (.slice el)) ∧ y=.const (.slice none 0 0):=by
 unfold mNilS at h
 simp only [Bae] at h
 obtain ⟨h1,h2⟩:=h
 constructor
 ·split at h1
  ·exact ⟨_,by assumption⟩
  cases h1
 split at h2
 ·rfl
 cases h2
theorem snl_R {p:AV} {u:Value} {b:Bool} (h:VR G p u) (hb:snlOf p=some b):∃ ad len cap,u=.slice (some ad) len cap ∧ b=false:=by
 cases p with
 | slice o sz xs =>
   cases xs with
   | nil=>cases hb
   | cons x xs =>
     simp only [snlOf,Oie] at hb
     simp only [VR] at h
     obtain ⟨ad,cap,rfl,h1,h2,h3,h4⟩:=h
     cases ad with
     | none=>simp only [lies] at h3;simp only [List.length_cons] at h1;omega
     | some ad=>exact ⟨ad,_,_,rfl,hb.symm⟩
 | ms g off len sz =>
   simp only [snlOf,Oie] at hb
   simp only [VR] at h
   obtain ⟨bl,room,cap,rfl,_⟩:=h
   exact ⟨_,_,_,rfl,hb.symm⟩
 | _=>cases hb
theorem evPs_zip {e:Nat → Option TV}:∀ {ps:List (Nat × Nat)} {xs:List AO} {l:List AV},Sim.evVs e xs=some l → evPs e (zipP ps xs)=some (zipP ps l)
 | [],xs,l,h=>by simp [zipP,evPs]
 | (a,b) :: ps,[],l,h=>by
  simp only [Sim.evVs,Oie] at h
  subst h
  simp [zipP,evPs]
 | (a,b) :: ps,x :: xs,l,h=>by
  simp only [Sim.evVs,Obe,Oie] at h
  obtain ⟨v,h1,l',h2,rfl⟩:=h
  simp only [zipP,evPs,h1,Obs,evPs_zip (ps:=ps) h2]
theorem sim_op {call:Caller} (hc:CallOK P call) (h:RR w0 G0 G fr a w) (o:Oper) (x:AOp) (hm:mOp P x o.op=true) {d:Option Nat} {tv:Option TV} {fr':Fr} (he:aop call d x fr=some (tv,fr')) :
 Good1 P w0 G0 a fr' tv ((execOp a.eval o).run P w):=by
 cases x with
 | mv x =>
   simp only [aop,Obe,Oie,Pie] at he
   obtain ⟨v,hv,rfl,rfl⟩:=he
   simp only [mOp] at hm
   split at hm
   ·rename_i y ho
    simp only [execOp,ho]
    exact good_val h rfl (h.ev hm hv)
   ·rename_i y ho
    simp only [execOp,ho]
    exact good_val h rfl (h.ev hm hv)
   cases hm
 | pick c p q =>
   simp only [aop,Obe,Oie,Pie] at he
   obtain ⟨cv,hcv,t,ht,v,hv,rfl,rfl⟩:=he
   simp only [mOp] at hm
   split at hm
   ·rename_i c' p' q' ho
    simp only [Bae] at hm
    have hb:=asB_R (h.evV hm.1.1 hcv) ht
    simp only [execOp,ho]
    cases t with
    | true=>exact good_val h (v:=a.eval p') (by simp [hb,asBool]) (h.ev hm.1.2 (by simpa using hv))
    | false=>exact good_val h (v:=a.eval q') (by simp [hb,asBool]) (h.ev hm.2 (by simpa using hv))
   cases hm
 | alloc lc z =>
   simp only [mOp] at hm
   split at hm
   ·rename_i t ho
    split at hm
    ·rename_i zv hz
     simp only [Bae] at hm
     obtain ⟨v,w',hr,hG⟩:=sim_alloc (P:=P) h hz hm.1 hm.2 he
     simp only [execOp,ho]
     exact good_ex ⟨v,w',run_v hr,hG⟩
    cases hm
   cases hm
 | box lc y =>
   simp only [mOp] at hm
   split at hm
   ·rename_i t y' ho
    obtain ⟨v,w',hr,hG⟩:=sim_box (P:=P) (t:=t) h hm he
    simp only [execOp,ho]
    exact good_ex ⟨v,w',run_v hr,hG⟩
   cases hm
 | build z ps =>
   simp only [aop,Obe,Oie,Pie] at he
   obtain ⟨l,hl,cs,hcs,rfl,rfl⟩:=he
   simp only [mOp] at hm
   split at hm
   ·rename_i t qs ho
    simp only [Bae] at hm
    obtain ⟨v,hr,hv⟩:=sim_build h hm.1 hm.2 hl hcs
    simp only [execOp,ho]
    exact good_val h (run_v hr) hv
   cases hm
 | bsl sz ps =>
   simp only [aop,Obe] at he
   obtain ⟨l,hl,he⟩:=he
   split at he
   ·rename_i hall
    simp only [Oie,Pie] at he
    obtain ⟨rfl,rfl⟩:=he
    simp only [mOp] at hm
    split at hm
    ·rename_i t len qs ho
     obtain ⟨v,w',hr,G',h1,h2⟩:=sim_bsl h hm hl hall
     simp only [execOp,ho]
     exact good_ex ⟨v,w',run_v hr,G',h1,fun x hx=>by cases hx;exact h2⟩
    cases hm
   cases he
 | ld hf n x =>
   simp only [aop,Obe,Oie,Pie] at he
   obtain ⟨p,hp,v,hv,rfl,rfl⟩:=he
   simp only [mOp] at hm
   split at hm
   ·rename_i t y ho
    simp only [Bae] at hm
    obtain ⟨u,hr,hu⟩:=sim_ld h hm.1 hm.2 hp hv
    simp only [execOp,ho]
    exact good_val h (run_v hr) hu
   cases hm
 | st hf n x y =>
   simp only [aop,Obe] at he
   obtain ⟨p,hp,v,hv,he⟩:=he
   split at he
   ·rename_i hn
    simp only [Obe,Oie,Pie] at he
    obtain ⟨fr1,hst,rfl,rfl⟩:=he
    simp only [mOp] at hm
    split at hm
    ·rename_i t x' y' ho
     simp only [Bae,beq_iff_eq] at hm
     obtain ⟨w',hr,hG⟩:=sim_st h hm.1.1 hm.1.2 hm.2 hp hv hn hst
     simp only [execOp,ho]
     rw [run_u hr]
     exact ⟨rfl,hG⟩
    cases hm
   cases he
 | nck x =>
   simp only [aop,Obe,Oie,Pie] at he
   obtain ⟨p,hp,v,hv,rfl,rfl⟩:=he
   simp only [mOp] at hm
   split at hm
   ·rename_i y ho
    have hr:=h.ev hm hp
    have hq:v=p ∧ ((∃ b,a.eval y=.pointer (some b)) ∨ ∃ f b c,a.eval y=.func (.func f) b c):=by
     cases p with
     | loc i o=>obtain ⟨k,e,_⟩:=hr;simp only [nckOf,Oie] at hv;exact ⟨hv.symm,.inl ⟨_,e⟩⟩
     | tup vs=>simp [nckOf] at hv
     | und=>simp [nckOf] at hv
     | val av =>
       cases av with
       | ptr i o=>simp only [TR,VR] at hr;obtain ⟨k,e,_⟩:=hr;simp only [nckOf,Oie] at hv;exact ⟨hv.symm,.inl ⟨_,e⟩⟩
       | cptr i o=>simp only [TR,VR] at hr;obtain ⟨k,m,e,_⟩:=hr;simp only [nckOf,Oie] at hv;exact ⟨hv.symm,.inl ⟨_,e⟩⟩
       | fn f x y=>simp only [TR,VR] at hr;obtain ⟨k,m,e,_⟩:=hr;simp only [nckOf,Oie] at hv;exact ⟨hv.symm,.inr ⟨_,_,_,e⟩⟩
       | mp g o=>simp only [TR,VR] at hr;obtain ⟨k,m,e,_⟩:=hr;simp only [nckOf,Oie] at hv;exact ⟨hv.symm,.inl ⟨_,e⟩⟩
       | _=>simp [nckOf] at hv
    obtain ⟨rfl,hq⟩:=hq
    simp only [execOp,ho]
    refine good_val h ?_ hr
    rcases hq with ⟨b,e⟩ | ⟨f,b,c,e⟩ <;> rw [e] <;> rfl
   cases hm
 | bin op x y =>
   simp only [aop,Obe,Oie,Pie] at he
   obtain ⟨p,hp,q,hq,v,hv,rfl,rfl⟩:=he
   simp only [mOp] at hm
   split at hm
   ·rename_i op' t x' y' t' ho
    simp only [Bae,Dte] at hm
    obtain ⟨⟨rfl,h1⟩,h2⟩:=hm
    obtain ⟨u,hr,hu⟩:=sim_bin (P:=P) (w:=w) (t:=t) (x:=x') (y:=y') (h.evV h1 hp) (h.evV h2 hq) hv
    simp only [execOp,ho]
    exact good_val h (run_v hr) hu
   cases hm
 | beq ng x y =>
   simp only [aop,Obe,Oie,Pie] at he
   obtain ⟨p,hp,b1,hb1,q,hq,b2,hb2,rfl,rfl⟩:=he
   simp only [mOp] at hm
   split at hm
   ·rename_i op' t x' y' t' ho
    simp only [Bae,Dte] at hm
    obtain ⟨⟨⟨rfl,h1⟩,h2⟩,h3⟩:=hm
    split at h3
    ·rename_i hu
     have e1:=asB_R (h.evV h1 hp) hb1
     have e2:=asB_R (h.evV h2 hq) hb2
     simp only [execOp,ho]
     refine good_val h (v:=.bool (if ng then !(b1 == b2) else (b1 == b2))) ?_ (by show VR G (.lit _) _;unfold VR;exact ⟨rfl,rfl⟩)
     rw [e1,e2]
     cases ng <;> simp [eqGuard,binOp,Op.equal,Op.maxDepth,run_equalIn_bool w _ t b1 b2 hu]
    cases h3
   cases hm
 | peq ng x y =>
   simp only [aop,Obe] at he
   obtain ⟨p,hp,b1,hb1,q,hq,b2,hb2,he⟩:=he
   split at he
   ·rename_i hor
    simp only [Oie,Pie] at he
    obtain ⟨rfl,rfl⟩:=he
    simp only [mOp] at hm
    split at hm
    ·rename_i op' t x' y' t' ho
     simp only [Bae,Dte] at hm
     obtain ⟨⟨⟨rfl,h1⟩,h2⟩,h3⟩:=hm
     split at h3
     ·rename_i el hu
      obtain ⟨u1,e1,n1⟩:=isNilP_R (h.ev h1 hp) hb1
      obtain ⟨u2,e2,n2⟩:=isNilP_R (h.ev h2 hq) hb2
      simp only [execOp,ho]
      refine good_val h (v:=.bool (if ng then !(b1 && b2) else (b1 && b2))) ?_ (by show VR G (.lit _) _;unfold VR;exact ⟨rfl,rfl⟩)
      have heq:∀ n,(Op.equalIn (n + 1) t (.pointer u1) (.pointer u2)).run P w=.ok (b1 && b2) w:=by
       intro n
       subst n1 n2
       cases u1 <;> cases u2 <;> simp [Op.equalIn,run_underlying hu] at hor ⊢
      rw [e1,e2]
      cases ng <;> simp [eqGuard,binOp,Op.equal,Op.maxDepth,heq]
     cases h3
    cases hm
   cases he
 | mmx mx x y =>
   simp only [aop,Obe,Oie,Pie] at he
   obtain ⟨p,hp,q,hq,v,hv,rfl,rfl⟩:=he
   simp only [mOp] at hm
   split at hm
   ·rename_i c ho
    have key:∀ (x' y':Operand),c.args.toList=[x',y'] → mO x x'=true → mO y y'=true → ∃ k m n,c.args.map a.eval=#[.int k m,.int k n] ∧ v=.lit (.int k (if mx then (if n > m then n else m) else (if n < m then n else m))):=by
     intro x' y' hargs h1 h2
     have ea:c.args=#[x',y']:=Array.ext' (by simpa using hargs)
     have r1:=h.evV h1 hp
     have r2:=h.evV h2 hq
     unfold mmOf at hv
     split at hv
     ·split at hv
      ·rename_i hk
       subst hk
       simp only [Oie] at hv
       simp only [VR] at r1 r2
       exact ⟨_,_,_,by simp [ea,r1.1,r2.1],hv.symm⟩
      cases hv
     cases hv
    split at hm
    ·rename_i x' y' hcal hargs
     simp only [Bae] at hm
     obtain ⟨k,m,n,e1,rfl⟩:=key x' y' hargs hm.1.1 hm.1.2
     have hmx:=hm.2
     subst hmx
     simp only [execOp,ho,resolve,hcal,Sem.run_bind,Sem.run_pure,Result.andThen_ok,invoke,builtin,e1]
     exact good_val h (v:=.int k (if n > m then n else m)) (by simp [Builtin.max_,Builtin.max2]) (by show VR G (.lit _) _;unfold VR;exact ⟨rfl,rfl⟩)
    ·rename_i x' y' hcal hargs
     simp only [Bae,Bool.not_eq_true'] at hm
     obtain ⟨k,m,n,e1,rfl⟩:=key x' y' hargs hm.1.1 hm.1.2
     have hmx:=hm.2
     subst hmx
     simp only [execOp,ho,resolve,hcal,Sem.run_bind,Sem.run_pure,Result.andThen_ok,invoke,builtin,e1]
     exact good_val h (v:=.int k (if n < m then n else m)) (by simp [Builtin.min_,Builtin.min2]) (by show VR G (.lit _) _;unfold VR;exact ⟨rfl,rfl⟩)
    cases hm
   cases hm
 | aeq ng ks x y =>
   simp only [aop,Obe,Oie,Pie] at he
   obtain ⟨p,hp,q,hq,r,hr,rfl,rfl⟩:=he
   simp only [mOp] at hm
   split at hm
   ·rename_i op' t x' y' t' ho
    simp only [Bae,Dte] at hm
    obtain ⟨⟨⟨rfl,h1⟩,h2⟩,h3⟩:=hm
    have r1:=h.evV h1 hp
    have r2:=h.evV h2 hq
    unfold aeqOf at hr
    split at hr
    ·rename_i as bs
     simp only [VR] at r1 r2
     obtain ⟨us,e1,g1,_⟩:=r1
     obtain ⟨vs,e2,g2,_⟩:=r2
     simp only [mAeq,Bae,Bool.not_eq_true'] at h3
     obtain ⟨⟨h3,h4⟩,h5⟩:=h3
     split at h3
     ·rename_i fs hu
      have hfs:P.fieldsOf t=fs:=by simp [Program.fieldsOf,hu]
      have hf:=eqFields_ok (P:=P) (w:=w) (d:=9998) (us:=us) (vs:=vs) ks fs.toList 0 as bs r h3 hr (by simpa using g1) (by simpa using g2)
      have heq:(Op.equalIn 10000 t (.agg us.toArray) (.agg vs.toArray)).run P w=.ok r w:=by
       rw [run_equalIn_struct w 9999 t _ _ (by rw [hfs];exact hu) h4,hfs]
       exact hf
      simp only [execOp,ho]
      refine good_val h (v:=.bool (if ng then !r else r)) ?_ (by show VR G (.lit _) _;unfold VR;exact ⟨rfl,rfl⟩)
      rw [e1,e2]
      cases ng <;> simp [run_eqGuard_agg w _ t x' y' us.toArray vs.toArray h5,run_eql_struct,run_neq_struct,heq]
     cases h3
    cases hr
   cases hm
 | unot x =>
   simp only [aop,Obe,Oie,Pie] at he
   obtain ⟨p,hp,b,hb,rfl,rfl⟩:=he
   simp only [mOp] at hm
   split at hm
   ·rename_i t y ho
    simp only [execOp,ho]
    refine good_val h (v:=.bool !b) ?_ (by show VR G (.lit _) _;unfold VR;exact ⟨rfl,rfl⟩)
    rw [asB_R (h.evV hm hp) hb]
    rfl
   cases hm
 | uneg x =>
   simp only [aop,Obe,Oie,Pie] at he
   obtain ⟨p,hp,v,hv,rfl,rfl⟩:=he
   simp only [mOp] at hm
   split at hm
   ·rename_i t y ho
    have hr:=h.evV hm hp
    cases p with
    | lit q =>
      cases q <;> simp only [negOf,reduceCtorEq,Oie] at hv
      subst hv
      simp only [VR] at hr
      simp only [execOp,ho]
      refine good_val h ?_ (by show VR G (.lit _) _;unfold VR;exact ⟨rfl,rfl⟩)
      rw [hr.1]
      rfl
    | _=>simp [negOf] at hv
   cases hm
 | cvt k x =>
   simp only [aop,Obe,Oie,Pie] at he
   obtain ⟨p,hp,n,hn,rfl,rfl⟩:=he
   simp only [mOp] at hm
   split at hm
   ·rename_i s t y ho
    simp only [Bae] at hm
    obtain ⟨⟨h1,h2⟩,h3⟩:=hm
    split at h3
    ·rename_i k' hu
     simp only [Dte] at h3
     subst h3
     obtain ⟨k0,e⟩:=asN_R (h.evV h1 hp) hn
     obtain ⟨sd,hs⟩:=Option.isSome_iff_exists.1 h2
     simp only [execOp,ho]
     refine good_val h (v:=.int k (k.wrap n)) ?_ (by show VR G (.lit _) _;unfold VR;exact ⟨rfl,rfl⟩)
     rw [e]
     simp [convert,run_underlying hs,run_underlying hu,Conv.intToInt]
    cases h3
   cases hm
 | mkf f fs cs =>
   simp only [aop,Obe,Oie,Pie] at he
   obtain ⟨l1,h1,l2,h2,rfl,rfl⟩:=he
   simp only [mOp] at hm
   split at hm
   ·rename_i f' fs' cs' ho
    simp only [Bae,beq_iff_eq] at hm
    obtain ⟨⟨rfl,m1⟩,m2⟩:=hm
    simp only [execOp,ho]
    refine good_val h (v:=.func (.func f) (fs'.map a.eval) (cs'.map a.eval)) rfl ?_
    show VR G (.fn _ _ _) _
    simp only [VR]
    refine ⟨(fs'.toList.map a.eval),(cs'.toList.map a.eval),?_,VRs_er _ _ (h.evVs m1 h1),VRs_er _ _ (h.evVs m2 h2)⟩
    congr 1 <;> exact Array.ext' (by simp)
   cases hm
 | mkm kk =>
   simp only [aop,Oie,Pie] at he
   obtain ⟨rfl,rfl⟩:=he
   simp only [mOp] at hm
   split at hm
   ·rename_i t ho
    obtain ⟨v,w',hr,G',h1,h2⟩:=sim_mkm (P:=P) h t kk
    simp only [execOp,ho,Option.map_none]
    exact good_ex ⟨v,w',run_v hr,G',h1,fun x hx=>by cases hx;exact h2⟩
   cases hm
 | fa off x =>
   simp only [aop,Obe,Oie,Pie] at he
   obtain ⟨p,hp,v,hv,rfl,rfl⟩:=he
   simp only [mOp] at hm
   split at hm
   ·rename_i t y i ho
    simp only [Bae] at hm
    obtain ⟨h1,h2⟩:=hm
    split at h2
    ·rename_i f hf
     simp only [Bae,beq_iff_eq] at h2
     obtain ⟨h2,h3⟩:=h2
     split at h3
     ·rename_i s hs
      simp only [Dte] at h3
      obtain ⟨u,hr,hu⟩:=sim_fa h h1 hf h2 hs h3 hp hv
      simp only [execOp,ho]
      exact good_val h (run_v hr) hu
     cases h3
    cases h2
   cases hm
 | fld off n x =>
   simp only [aop,Obe,Oie,Pie] at he
   obtain ⟨p,hp,v,hv,rfl,rfl⟩:=he
   simp only [mOp] at hm
   split at hm
   ·rename_i t y i ho
    simp only [Bae] at hm
    obtain ⟨h1,h2⟩:=hm
    split at h2
    ·rename_i f hf
     simp only [Bae,beq_iff_eq] at h2
     obtain ⟨h2,h3⟩:=h2
     have hr:=h.evV h1 hp
     cases p with
     | agg cs =>
       simp only [fldOf] at hv
       simp only [VR] at hr
       obtain ⟨vs,e,hvs,hall⟩:=hr
       unfold fieldOf at hf
       split at hf
       ·rename_i fs hu
        simp only [execOp,ho]
        rw [e]
        cases n with
        | none =>
          simp only [mN,beq_iff_eq] at h3
          simp only [rd] at hv
          obtain ⟨u,g1,g2⟩:=VRs_get hvs _ v hv
          refine good_val h (v:=u) (run_v ?_) g2
          simp [Instr.field,run_underlying hu,hf,asAgg,part,run_aggOf h3,h2,g1]
        | some n =>
          simp only [mN,Bae,beq_iff_eq] at h3
          simp only [rd] at hv
          split at hv
          ·rename_i hle
           simp only [Oie] at hv
           subst hv
           refine good_val h (v:=.agg (vs.toArray.extract off (off + n))) (run_v ?_) ?_
           ·simp [Instr.field,run_underlying hu,hf,asAgg,part,run_aggOf h3.1,h2,run_szOf h3.2]
           show VR G (.agg _) _
           simp only [VR]
           refine ⟨(vs.drop off).take n,?_,VRs_take (VRs_drop hvs _) _,?_⟩
           ·congr 1
            apply Array.ext'
            simp [List.extract_eq_take_drop]
           rw [List.all_eq_true] at hall ⊢
           exact fun c hc=>hall c (List.mem_of_mem_drop (List.mem_of_mem_take hc))
          cases hv
       cases hf
     | _=>simp [fldOf] at hv
    cases h2
   cases hm
 | ia sz x i =>
   simp only [aop,Obe,Oie,Pie] at he
   obtain ⟨p,hp,iv,hiv,n,hn,v,hv,rfl,rfl⟩:=he
   simp only [mOp] at hm
   split at hm
   ·rename_i t y k ho
    simp only [Bae,beq_iff_eq] at hm
    obtain ⟨u,hr,hu⟩:=sim_ia h hm.1.1 hm.1.2 hm.2 hp hiv hn hv
    simp only [execOp,ho]
    exact good_val h (run_v hr) hu
   cases hm
 | iaa len sz x i =>
   simp only [aop,Obe] at he
   obtain ⟨p,hp,iv,hiv,n,hn,he⟩:=he
   split at he
   ·rename_i hr0
    simp only [Obe,Oie,Pie] at he
    obtain ⟨v,hv,rfl,rfl⟩:=he
    simp only [mOp] at hm
    split at hm
    ·rename_i t y k ho
     simp only [Bae,beq_iff_eq] at hm
     obtain ⟨u,hr,hu⟩:=sim_iaa h hm.1.1 hm.1.2 hm.2 hp hiv hn hr0 hv
     simp only [execOp,ho]
     exact good_val h (run_v hr) hu
    cases hm
   cases he
 | ixs x i =>
   simp only [aop,Obe,Oie,Pie] at he
   obtain ⟨p,hp,iv,hiv,n,hn,v,hv,rfl,rfl⟩:=he
   simp only [mOp] at hm
   split at hm
   ·rename_i t y k ho
    simp only [Bae] at hm
    obtain ⟨⟨h1,h2⟩,h3⟩:=hm
    split at h3
    ·rename_i hu
     have hr:=h.evV h1 hp
     obtain ⟨k0,e⟩:=asN_R (h.evV h2 hiv) hn
     unfold ixsOf at hv
     split at hv
     ·rename_i s
      split at hv
      ·rename_i h0
       simp only [Obe,Oie] at hv
       obtain ⟨b,hb,rfl⟩:=hv
       simp only [VR] at hr
       simp only [execOp,ho]
       refine good_val h (v:=.int .u8 b.toNat) (run_v ?_) (by show VR G (.lit _) _;unfold VR;exact ⟨rfl,rfl⟩)
       rw [hr.1,e]
       have hb':s[n.toNat]?=some b:=by
        have hlt:n.toNat < s.data.toList.length:=by
         rcases Nat.lt_or_ge n.toNat s.data.toList.length with h' | h'
         ·exact h'
         rw [List.getElem?_eq_none h'] at hb;cases hb
        have hlt':n.toNat < s.size:=by simpa using hlt
        rw [getElem?_pos s n.toNat hlt']
        rw [List.getElem?_eq_getElem hlt] at hb
        have h9:s.data[n.toNat]'hlt'=b:=by simpa using hb
        exact congrArg some h9
       simp [Instr.index,asIntOf,run_underlying hu,h0,hb']
      cases hv
     cases hv
    cases h3
   cases hm
 | lk kk z ok m k =>
   simp only [aop,Obe,Oie,Pie] at he
   obtain ⟨mv,h1,kv,h2,key,h3,r,h4,rfl,rfl⟩:=he
   simp only [mOp] at hm
   split at hm
   ·rename_i t m' k' ok' ho
    simp only [Bae,beq_iff_eq] at hm
    obtain ⟨⟨⟨m1,m2⟩,rfl⟩,m3⟩:=hm
    obtain ⟨u,hr,hu⟩:=sim_lk h m1 m2 m3 (ok:=ok) h1 h2 h3 h4
    simp only [execOp,ho]
    exact good_val h (run_v hr) hu
   cases hm
 | mu kk m k v =>
   simp only [aop,Obe,Oie,Pie] at he
   obtain ⟨mv,h1,kv,h2,key,h3,vv,h5,r,h4,rfl,rfl⟩:=he
   simp only [mOp] at hm
   split at hm
   ·rename_i t m' k' v' ho
    simp only [Bae] at hm
    obtain ⟨w',hr,hG⟩:=sim_mu h hm.1.1.1 hm.1.1.2 hm.1.2 hm.2 h1 h2 h3 h5 h4
    simp only [execOp,ho]
    rw [run_u hr]
    exact ⟨rfl,G,hG⟩
   ·rename_i t m' k' v' ho
    simp only [Bae] at hm
    obtain ⟨w',hr,hG⟩:=sim_mu h hm.1.1.1 hm.1.1.2 hm.1.2 hm.2 h1 h2 h3 h5 h4
    simp only [execOp,ho]
    rw [run_u hr]
    exact ⟨rfl,G,hG⟩
   cases hm
 | dl kk m k =>
   simp only [aop,Obe,Oie,Pie] at he
   obtain ⟨mv,h1,kv,h2,key,h3,r,h4,rfl,rfl⟩:=he
   simp only [mOp] at hm
   split at hm
   ·rename_i c ho
    split at hm
    ·rename_i m' k' t u hcal hargs htys
     simp only [Bae] at hm
     obtain ⟨w',hr,hG⟩:=sim_dl (u:=u) (ty:=o.type) h hm.1.1 hm.1.2 hm.2 h1 h2 h3 h4
     have ea:c.args=#[m',k']:=Array.ext' (by simpa using hargs)
     have et:c.argTypes=#[t,u]:=Array.ext' (by simpa using htys)
     simp only [execOp,ho,resolve,hcal,Sem.run_bind,Sem.run_pure,Result.andThen_ok,invoke,builtin,ea,et]
     have e2:(#[m',k']:Array Operand).map a.eval=#[a.eval m',a.eval k']:=by simp
     rw [e2]
     refine good_ex ⟨.tuple #[],w',?_,G,hG,fun x hx=>by cases hx⟩
     rw [hr];rfl
    cases hm
   cases hm
 | ext x i =>
   simp only [aop,Obe,Oie,Pie] at he
   obtain ⟨p,hp,v,hv,rfl,rfl⟩:=he
   simp only [mOp] at hm
   split at hm
   ·rename_i y j ho
    simp only [Bae,beq_iff_eq] at hm
    obtain ⟨h1,rfl⟩:=hm
    have hr:=h.ev h1 hp
    unfold extOf at hv
    split at hv
    ·rename_i vs
     obtain ⟨l,e,hl⟩:=hr
     obtain ⟨u,g1,g2⟩:=VRs_get hl _ v hv
     simp only [execOp,ho]
     refine good_val h (v:=u) (run_v ?_) g2
     rw [e]
     simp [Instr.extract,g1]
    cases hv
   cases hm
 | call f as =>
   simp only [aop,Obe,Oie,Pie] at he
   obtain ⟨g,h1,l,h2,⟨res,s'⟩,h3,rfl,rfl⟩:=he
   simp only [mOp] at hm
   split at hm
   ·rename_i c ho
    simp only [Bae] at hm
    obtain ⟨f',args,hr,hcalls⟩:=sim_call h hc (ty:=o.type) hm.1 hm.2 h1 h2 h3
    simp only [execOp,ho]
    rw [hr]
    refine hcalls.mono ?_
    rintro e w'' ⟨v,rfl,G',r1,r2⟩
    exact ⟨v,rfl,G',r1,fun x hx=>by cases hx;exact r2⟩
   cases hm
 | len st x =>
   simp only [aop,Obe,Oie,Pie] at he
   obtain ⟨p,hp,v,hv,rfl,rfl⟩:=he
   simp only [mOp] at hm
   split at hm
   ·rename_i c ho
    split at hm
    ·rename_i y t hcal hargs htys
     simp only [Bae] at hm
     obtain ⟨h1,h2⟩:=hm
     have hr:=h.evV h1 hp
     have ea:c.args=#[y]:=Array.ext' (by simpa using hargs)
     have et:c.argTypes=#[t]:=Array.ext' (by simpa using htys)
     simp only [execOp,ho,resolve,hcal,Sem.run_bind,Sem.run_pure,Result.andThen_ok,invoke,builtin,ea,et]
     have e2:(#[y]:Array Operand).map a.eval=#[a.eval y]:=by simp
     rw [e2]
     unfold lenOfA at hv
     split at hv
     ·rename_i o' sz xs
      simp only [Oie] at hv
      subst hv
      simp only [VR] at hr
      obtain ⟨sa,cap,e,_⟩:=hr
      refine good_val h (v:=.int .i64 xs.length) ?_ (by show VR G (.lit _) _;unfold VR;exact ⟨rfl,rfl⟩)
      rw [e]
      split at h2
      ·cases h2
      ·rename_i el hu
       simp [Builtin.len_,run_underlying hu,goInt]
      cases h2
     ·rename_i g off len sz
      simp only [Oie] at hv
      subst hv
      simp only [VR] at hr
      obtain ⟨bl,room,cap,e,_⟩:=hr
      refine good_val h (v:=.int .i64 len) ?_ (by show VR G (.lit _) _;unfold VR;exact ⟨rfl,rfl⟩)
      rw [e]
      split at h2
      ·cases h2
      ·rename_i el hu
       simp [Builtin.len_,run_underlying hu,goInt]
      cases h2
     ·rename_i s
      simp only [Oie] at hv
      subst hv
      simp only [VR] at hr
      refine good_val h (v:=.int .i64 s.size) ?_ (by show VR G (.lit _) _;unfold VR;exact ⟨rfl,rfl⟩)
      rw [hr.1]
      split at h2
      ·rename_i hu
       simp [Builtin.len_,run_underlying hu,goInt]
      ·cases h2
      cases h2
     ·simp only [Oie] at hv
      subst hv
      simp only [VR] at hr
      refine good_val h (v:=.int .i64 0) ?_ (by show VR G (.lit _) _;unfold VR;exact ⟨rfl,rfl⟩)
      rw [hr.1]
      split at h2
      ·cases h2
      ·rename_i el hu
       simp [Builtin.len_,run_underlying hu,goInt]
      cases h2
     cases hv
    cases hm
   cases hm
 | app sz by_ s x =>
   simp only [aop,Obe] at he
   obtain ⟨sv,h1,xv,h2,so,h3,xo,h4,h5⟩:=he
   simp only [mOp] at hm
   split at hm
   ·rename_i c ho
    split at hm
    ·rename_i s' x' t t' hcal hargs htys
     simp only [Bae,beq_iff_eq] at hm
     obtain ⟨⟨⟨m1,m2⟩,rfl⟩,m3⟩:=hm
     obtain ⟨v,w',hr,hG⟩:=sim_app (ty:=o.type) h m1 m2 m3 h1 h2 h3 h4 h5
     have ea:c.args=#[s',x']:=Array.ext' (by simpa using hargs)
     have et:c.argTypes=#[t,t]:=Array.ext' (by simpa using htys)
     simp only [execOp,ho,resolve,hcal,Sem.run_bind,Sem.run_pure,Result.andThen_ok,invoke,builtin,ea,et]
     have e2:(#[s',x']:Array Operand).map a.eval=#[a.eval s',a.eval x']:=by simp
     rw [e2]
     refine good_ex ⟨v,w',?_,hG⟩
     rw [hr];rfl
    cases hm
   cases hm
 | sl sz x lo hi mx =>
   simp only [aop,Obe,Oie,Pie] at he
   obtain ⟨p,hp,v,hv,rfl,rfl⟩:=he
   simp only [mOp] at hm
   split at hm
   ·rename_i t x' lo' hi' mx' ho
    simp only [Bae,beq_iff_eq] at hm
    obtain ⟨⟨⟨⟨⟨m1,m2⟩,m3⟩,m4⟩,m5⟩,m6⟩:=hm
    obtain ⟨u,hr,hu⟩:=sim_sl h m1 m2 m3 m4 (fun hh=>by simpa [hh] using m5) m6 hp hv
    simp only [execOp,ho]
    exact good_val h (run_v hr) hu
   cases hm
 | sls x lo hi =>
   simp only [aop,Obe,Oie,Pie] at he
   obtain ⟨p,hp,v,hv,rfl,rfl⟩:=he
   simp only [mOp] at hm
   split at hm
   ·rename_i t x' lo' hi' ho
    simp only [Bae] at hm
    obtain ⟨⟨⟨m1,m2⟩,m3⟩,m4⟩:=hm
    split at m4
    ·rename_i hu
     obtain ⟨u,hr,hu⟩:=sim_sls h m1 m2 m3 hu hp hv
     simp only [execOp,ho,Option.map_none]
     exact good_val h (run_v hr) hu
    cases m4
   cases hm
 | dfr f as =>
   simp only [aop,Obe,Oie,Pie] at he
   obtain ⟨g,h1,l,h2,fr1,h3,rfl,rfl⟩:=he
   simp only [mOp] at hm
   split at hm
   ·rename_i c ho
    simp only [Bae] at hm
    obtain ⟨d',hr,hG⟩:=sim_dfr (P:=P) h (ty:=o.type) hm.1 hm.2 h1 h2 h3
    simp only [execOp,ho]
    have:(do pure (.defer (← resolve a.eval c o.type)):Sem Next).run P w=.ok (.defer d') w:=by simp [hr]
    rw [this]
    exact ⟨rfl,G,hG⟩
   cases hm
 | ldo tk rt n x =>
   simp only [aop,Obe,Oie,Pie] at he
   obtain ⟨q,hq,p,hp,v,hv,rfl,rfl⟩:=he
   simp only [mOp] at hm
   split at hm
   ·rename_i t y ho
    simp only [Bae] at hm
    obtain ⟨u,hr,hu⟩:=sim_ld (hf:=true) h hm.1 hm.2 hp (ldo_ld hv)
    simp only [execOp,ho]
    exact good_val h (run_v hr) hu
   cases hm
 | sts m n x y =>
   simp only [aop,Obe,Oie,Pie] at he
   obtain ⟨p,hp,v,hv,s',hst,rfl,rfl⟩:=he
   simp only [mOp] at hm
   split at hm
   ·rename_i t x' y' ho
    simp only [Bae,beq_iff_eq] at hm
    obtain ⟨hn,e1⟩:=sts_st (fr:=fr) (sts_K hst)
    rw [hst] at e1
    obtain ⟨w',hr,hG⟩:=sim_st h hm.1.1 hm.1.2 hm.2 (evV_some hp) hv hn e1
    simp only [execOp,ho]
    rw [run_u hr]
    exact ⟨rfl,hG⟩
   cases hm
 | tas t z ok x =>
   simp only [aop,Obe,Oie,Pie] at he
   obtain ⟨p,hp,r,hr,rfl,rfl⟩:=he
   simp only [mOp] at hm
   split at hm
   ·rename_i y st t' ok' ho
    simp only [Bae,beq_iff_eq] at hm
    obtain ⟨⟨⟨⟨h1,rfl⟩,rfl⟩,h2⟩,h3⟩:=hm
    split at h3
    ·rename_i zv hz
     have hv:=h.evV h1 hp
     have hzv:=(cok_sound G z zv h3).1
     have hu:∃ d,P.underlying t=some d ∧ ∀ ms,d ≠ .interface ms:=by
      unfold notIface at h2
      split at h2
      ·cases h2
      ·rename_i d hne hd;exact ⟨d,hd,fun ms e=>hne ms e⟩
      cases h2
     obtain ⟨d,hu,hni⟩:=hu
     simp only [execOp,ho]
     cases p with
     | iface t' v =>
       simp only [VR] at hv
       obtain ⟨u,e,hv⟩:=hv
       rw [e]
       simp only [tasOf] at hr
       split at hr
       ·rename_i e1
        subst e1
        simp only [Oie] at hr
        subst hr
        refine good_val h (v:=if ok then .tuple #[u,.bool true] else u) (run_v ?_) ?_
        ·simp only [Instr.typeAssert,Sem.run_bind,run_underlying hu,Result.andThen_ok]
         cases d <;> first | exact absurd rfl (hni _) | simp
        cases ok
        ·exact hv
        exact ⟨[u,.bool true],rfl,by simp only [VRs];exact ⟨u,_,rfl,hv,_,[],rfl,(by unfold VR;exact ⟨rfl,rfl⟩),rfl⟩⟩
       rename_i e1
       split at hr
       ·rename_i hok
        simp only [Oie] at hr
        subst hr hok
        refine good_val h (v:=.tuple #[zv,.bool false]) (run_v ?_) ⟨[zv,.bool false],rfl,by simp only [VRs];exact ⟨zv,_,rfl,hzv,_,[],rfl,(by unfold VR;exact ⟨rfl,rfl⟩),rfl⟩⟩
        simp only [Instr.typeAssert,Sem.run_bind,run_underlying hu,Result.andThen_ok]
        cases d <;> first | exact absurd rfl (hni _) | simp [e1,run_zeroOf hz]
       cases hr
     | lit q =>
       cases q with
       | nilIface =>
         simp only [tasOf] at hr
         split at hr
         ·rename_i hok
          simp only [Oie] at hr
          subst hr hok
          simp only [VR] at hv
          rw [hv.1]
          refine good_val h (v:=.tuple #[zv,.bool false]) (run_v ?_) ⟨[zv,.bool false],rfl,by simp only [VRs];exact ⟨zv,_,rfl,hzv,_,[],rfl,(by unfold VR;exact ⟨rfl,rfl⟩),rfl⟩⟩
          simp only [Instr.typeAssert,Sem.run_bind,run_underlying hu,Result.andThen_ok]
          cases d <;> first | exact absurd rfl (hni _) | simp [run_zeroOf hz]
         cases hr
       | _=>simp [tasOf] at hr
     | _=>simp [tasOf] at hr
    cases h3
   cases hm
 | inv tb x as =>
   simp only [aop,Obe,Oie,Pie] at he
   obtain ⟨g,h1,l,h2,⟨res,s'⟩,h3,rfl,rfl⟩:=he
   simp only [mOp] at hm
   split at hm
   ·rename_i c ho
    split at hm
    ·rename_i recv name hcal
     simp only [Bae] at hm
     obtain ⟨⟨m1,m2⟩,m3⟩:=hm
     cases g with
     | iface t v =>
       simp only [invOf,Obe] at h3
       obtain ⟨q,hq,h3⟩:=h3
       have hqt:q.1=t:=by simpa using List.find?_some hq
       have hmm:=List.all_eq_true.1 m3 q (List.mem_of_find?_eq_some hq)
       rw [hqt] at hmm
       have hv:=h.evV m1 h1
       simp only [VR] at hv
       obtain ⟨u,e,hv⟩:=hv
       have hl:=h.evVs m2 h2
       obtain ⟨hr,hcalls⟩:=sim_into h hc (vs:=u :: c.args.toList.map a.eval) (by simp only [VRs];exact ⟨_,_,rfl,hv,hl⟩) h3
       simp only [execOp,ho,resolve,hcal,Sem.run_bind,Sem.run_pure,Result.andThen_ok,invoke]
       have ea:(#[a.eval recv] ++ c.args.map a.eval)[0]?=some (a.eval recv):=by rw [Array.getElem?_append_left (Nat.zero_lt_one)];rfl
       rw [ea]
       simp only [e,callMethod]
       have eb:(#[u] ++ ((#[a.eval recv] ++ c.args.map a.eval).extract 1 (#[a.eval recv] ++ c.args.map a.eval).size))=(u :: c.args.toList.map a.eval).toArray:=Array.ext' (by simp;exact List.take_of_length_le (by simp))
       rw [e] at eb
       have em:=run_meth (P:=P) (w:=w) hmm u
       simp only [Sem.run_bind,Sem.run,program,Result.andThen] at em ⊢
       erw [em]
       simp only [Result.andThen_ok]
       rw [eb]
       erw [hr]
       refine hcalls.mono ?_
       rintro e w'' ⟨v,rfl,G',r1,r2⟩
       exact ⟨v,rfl,G',r1,fun x hx=>by cases hx;exact r2⟩
     | _=>simp [invOf] at h3
    cases hm
   cases hm
 | callq ks f as =>
   simp only [aop,Obe] at he
   obtain ⟨g,h1,l,h2,⟨res,s'⟩,h3,he⟩:=he
   obtain ⟨hk,e⟩:=qres_some he
   cases e
   simp only [mOp] at hm
   split at hm
   ·rename_i c ho
    simp only [Bae] at hm
    obtain ⟨f',args,hr,hcalls⟩:=sim_call h hc (ty:=o.type) hm.1 hm.2 h1 h2 h3
    simp only [execOp,ho]
    rw [hr]
    refine hcalls.mono ?_
    rintro e w'' ⟨v,rfl,G',r1,r2⟩
    exact ⟨v,rfl,G',r1,fun x hx=>by cases hx;exact r2⟩
   cases hm
 | wop k xs =>
   simp only [aop,Obe,Oie,Pie] at he
   obtain ⟨l,h1,⟨av,s'⟩,h2,rfl,rfl⟩:=he
   simp only [mOp] at hm
   split at hm
   ·rename_i sz by_ z x y t x' y' ho
    simp only [Bae] at hm
    obtain ⟨⟨m1,m2⟩,m3⟩:=hm
    simp only [Sim.evVs,Obe,Oie] at h1
    obtain ⟨p,hp,l1,⟨q,hq,l2,rfl,rfl⟩,rfl⟩:=h1
    simp only [wopOf,Obe] at h2
    obtain ⟨n,hn,m,hm',h2⟩:=h2
    obtain ⟨kn,e1⟩:=asN_R (h.evV m1 hp) hn
    obtain ⟨km,e2⟩:=asN_R (h.evV m2 hq) hm'
    obtain ⟨u,w',hr,G',g1,g2⟩:=sim_mks (kn:=kn) (km:=km) h m3 h2
    simp only [execOp,ho]
    rw [e1,e2]
    exact good_ex ⟨u,w',run_v hr,G',g1,fun x hx=>by cases hx;exact g2⟩
   ·rename_i len sz n x i t y k ho
    simp only [Bae] at hm
    obtain ⟨⟨m1,m2⟩,m3⟩:=hm
    simp only [Sim.evVs,Obe,Oie] at h1
    obtain ⟨p,hp,l1,⟨q,hq,l2,rfl,rfl⟩,rfl⟩:=h1
    simp only [wopOf,Obe,Oie,Pie] at h2
    obtain ⟨j,hj,v,hv,rfl,rfl⟩:=h2
    obtain ⟨kn,e1⟩:=asN_R (h.evV m2 hq) hj
    obtain ⟨u,hr,hu⟩:=sim_ixv (P:=P) (w:=w) (k:=kn) m3 (h.evV m1 hp) hv
    simp only [execOp,ho]
    rw [e1]
    exact good_val h (run_v hr) hu
   ·rename_i ng x op' t x' y' t' ho
    simp only [Bae,Dte] at hm
    obtain ⟨⟨rfl,m2⟩,m3⟩:=hm
    simp only [Sim.evVs,Obe,Oie] at h1
    obtain ⟨p,hp,l1,rfl,rfl⟩:=h1
    simp only [wopOf,Obe,Oie,Pie] at h2
    obtain ⟨b,hb,rfl,rfl⟩:=h2
    obtain ⟨hu,rfl⟩:=mNilS_inv m3
    obtain ⟨ad,len,cap,e1,e2⟩:=snl_R (h.evV m2 hp) hb
    obtain ⟨el,hu⟩:=hu
    simp only [execOp,ho]
    refine good_val h (v:=.bool (if ng then !b else b)) ?_ (by show VR G (.lit _) _;unfold VR;exact ⟨rfl,rfl⟩)
    subst e2
    rw [e1]
    have heq:∀ n,(Op.equalIn (n + 1) t (.slice (some ad) len cap) (.slice none 0 0)).run P w=.ok false w:=by
     intro n
     simp [Op.equalIn,run_underlying hu]
    cases ng <;> simp [eqGuard,binOp,Op.equal,Op.maxDepth,heq,Act.eval]
   ·rename_i t x t' y ho
    simp only [Bae,beq_iff_eq] at hm
    obtain ⟨⟨rfl,m1⟩,m2⟩:=hm
    simp only [Sim.evVs,Obe,Oie] at h1
    obtain ⟨p,hp,l1,rfl,rfl⟩:=h1
    simp only [wopOf,Oie,Pie] at h2
    obtain ⟨rfl,rfl⟩:=h2
    have hu:∃ d,P.underlying t=some d ∧ ∀ ms,d ≠ .interface ms:=by
     unfold notIface at m2
     split at m2
     ·cases m2
     ·rename_i d hne hd;exact ⟨d,hd,fun ms e=>hne ms e⟩
     cases m2
    obtain ⟨d,hu,hni⟩:=hu
    simp only [execOp,ho]
    refine good_val h (v:=.iface t (a.eval y)) (run_v ?_) (by show VR G (.iface t p) _;simp only [VR];exact ⟨_,rfl,h.evV m1 hp⟩)
    simp only [Instr.makeInterface,Sem.run_bind,run_underlying hu,Result.andThen_ok]
    cases d <;> first | exact absurd rfl (hni _) | simp
   ·rename_i ng x op' t x' y' t' ho
    simp only [Bae,Dte] at hm
    obtain ⟨⟨rfl,m2⟩,m3⟩:=hm
    simp only [Sim.evVs,Obe,Oie] at h1
    obtain ⟨p,hp,l1,rfl,rfl⟩:=h1
    simp only [wopOf,Obe,Oie,Pie] at h2
    obtain ⟨b,hb,rfl,rfl⟩:=h2
    obtain ⟨⟨el,hu⟩,rfl⟩:=mNilI_inv m3
    have hv:=h.evV m2 hp
    simp only [execOp,ho]
    refine good_val h (v:=.bool (if ng then !b else b)) ?_ (by show VR G (.lit _) _;unfold VR;exact ⟨rfl,rfl⟩)
    have heq:∀ n,(Op.equalIn (n + 1) t (a.eval x') .nilIface).run P w=.ok b w:=by
     intro n
     cases p with
     | iface t' v =>
       simp only [VR] at hv
       obtain ⟨u,e,_⟩:=hv
       simp only [ifnOf,Oie] at hb
       rw [e,← hb]
       simp [Op.equalIn,run_underlying hu]
     | lit q =>
       cases q with
       | nilIface =>
         simp only [VR] at hv
         simp only [ifnOf,Oie] at hb
         rw [hv.1,← hb]
         simp [Op.equalIn,run_underlying hu]
       | _=>simp [ifnOf] at hb
     | _=>simp [ifnOf] at hb
    have hg:(eqGuard (if ng then .neq else .eql) t x' (.const .nilIface) (a.eval x') .nilIface).run P w=.ok () w:=by
     unfold eqGuard
     cases ng <;> simp <;> cases a.eval x' <;> simp
    have hcn:a.eval (.const .nilIface)=.nilIface:=rfl
    rw [hcn]
    simp only [Sem.run_bind,hg,Result.andThen_ok]
    cases ng <;> simp [binOp,Op.equal,Op.maxDepth,heq]
   ·simp only [wopOf,reduceCtorEq] at h2
   ·rename_i n x t y ho
    simp only [Bae] at hm
    obtain ⟨m1,m2⟩:=hm
    simp only [Sim.evVs,Obe,Oie] at h1
    obtain ⟨p,hp,l1,rfl,rfl⟩:=h1
    simp only [wopOf] at h2
    cases p <;> simp only [ldzOf,reduceCtorEq] at h2
    rename_i id off
    obtain ⟨v,h3,h4⟩:=Obe.1 h2
    have hld:ldAt fr true n (.val (.ptr id off))=some v:=by simp only [ldAt,if_true];exact h3
    obtain ⟨u,hr,hu⟩:=sim_ld h m1 m2 (evV_some hp) hld
    obtain ⟨G',g1,g2⟩:=sim_frzV h hu h4
    simp only [execOp,ho]
    exact good_ex ⟨u,w,run_v hr,G',g1,fun x hx=>by cases hx;exact g2⟩
   ·rename_i z ps xs t qs ho
    simp only [Bae] at hm
    simp only [wopOf] at h2
    obtain ⟨cs,h3,h4⟩:=Obe.1 h2
    obtain ⟨u,hr,hu⟩:=sim_build h hm.1 hm.2 (evPs_zip h1) h3
    obtain ⟨G',g1,g2⟩:=sim_frzV h hu h4
    simp only [execOp,ho]
    exact good_ex ⟨u,w,run_v hr,G',g1,fun x hx=>by cases hx;exact g2⟩
   ·rename_i n x t y ho
    simp only [Bae] at hm
    obtain ⟨m1,m2⟩:=hm
    simp only [Sim.evVs,Obe,Oie] at h1
    obtain ⟨p,hp,l1,rfl,rfl⟩:=h1
    simp only [wopOf,Obe,Oie,Pie] at h2
    obtain ⟨v,h2,rfl,rfl⟩:=h2
    have hld:ldAt fr true n (.val p)=some v:=by
     cases p <;> simp only [ldvOf,reduceCtorEq] at h2 <;> simp only [ldAt,if_true] <;> exact h2
    obtain ⟨u,hr,hu⟩:=sim_ld h m1 m2 (evV_some hp) hld
    simp only [execOp,ho]
    exact good_val h (run_v hr) hu
   ·rename_i x t t' y ho
    simp only [Bae] at hm
    obtain ⟨m1,m2⟩:=hm
    simp only [Sim.evVs,Obe,Oie] at h1
    obtain ⟨p,hp,l1,rfl,rfl⟩:=h1
    simp only [wopOf,Obe,Oie,Pie] at h2
    obtain ⟨v,h2,rfl,rfl⟩:=h2
    unfold mS2b at m2
    simp only [Bae] at m2
    obtain ⟨m2,m3⟩:=m2
    obtain ⟨d,hd⟩:=Option.isSome_iff_exists.1 m2
    split at m3
    ·rename_i e he1
     split at m3
     ·rename_i he2
      obtain ⟨u,w',hr,G',g1,g2⟩:=sim_s2b h hd he1 he2 (h.evV m1 hp) h2
      simp only [execOp,ho]
      exact good_ex ⟨u,w',run_v hr,G',g1,fun x hx=>by cases hx;exact g2⟩
     cases m3
    cases m3
   ·rename_i sz len ps t len' qs ho
    simp only [Bae,beq_iff_eq] at hm
    obtain ⟨rfl,m2⟩:=hm
    simp only [wopOf] at h2
    obtain ⟨u,w',hr,G',g1,g2⟩:=sim_bslm h m2 h1 h2
    simp only [execOp,ho]
    exact good_ex ⟨u,w',run_v hr,G',g1,fun x hx=>by cases hx;exact g2⟩
   ·rename_i g sz cs i t g' k ho
    simp only [Bae,beq_iff_eq] at hm
    obtain ⟨⟨rfl,m2⟩,m3⟩:=hm
    simp only [Sim.evVs,Obe,Oie] at h1
    obtain ⟨p,hp,l1,rfl,rfl⟩:=h1
    simp only [wopOf,Obe,Oie,Pie] at h2
    obtain ⟨n,hn,v,hv,rfl,rfl⟩:=h2
    obtain ⟨kn,e1⟩:=asN_R (h.evV m2 hp) hn
    obtain ⟨u,hr,hu⟩:=sim_gad (P:=P) (kn:=kn) h m3 hv
    simp only [execOp,ho]
    rw [e1]
    exact good_val h (run_v hr) hu
   ·rename_i sz x y ho
    simp only [Sim.evVs,Obe,Oie] at h1
    obtain ⟨p,hp,l1,rfl,rfl⟩:=h1
    simp only [wopOf] at h2
    obtain ⟨G',g1,g2,_,_⟩:=sim_frz h (h.evV hm hp) h2
    simp only [execOp,ho]
    exact good_ex ⟨a.eval y,w,rfl,G',g1,fun x hx=>by cases hx;exact g2⟩
   ·rename_i sz x y ho
    simp only [Sim.evVs,Obe,Oie] at h1
    obtain ⟨p,hp,l1,rfl,rfl⟩:=h1
    simp only [wopOf] at h2
    obtain ⟨G',g1,g2,_,_⟩:=sim_frz h (h.evV hm hp) h2
    simp only [execOp,ho]
    exact good_ex ⟨a.eval y,w,rfl,G',g1,fun x hx=>by cases hx;exact g2⟩
   ·rename_i sz by_ s x c ho
    split at hm
    ·rename_i s' x' t t' hcal hargs htys
     simp only [Bae,beq_iff_eq] at hm
     obtain ⟨⟨⟨m1,m2⟩,rfl⟩,m3⟩:=hm
     simp only [Sim.evVs,Obe,Oie] at h1
     obtain ⟨p,hp,l1,⟨q,hq,l2,rfl,rfl⟩,rfl⟩:=h1
     simp only [wopOf] at h2
     obtain ⟨v,w',hr,G',g1,g2⟩:=sim_appm (ty:=o.type) h m3 (VR_nilS (h.evV m1 hp)) (h.evV m2 hq) h2
     have ea:c.args=#[s',x']:=Array.ext' (by simpa using hargs)
     have et:c.argTypes=#[t,t]:=Array.ext' (by simpa using htys)
     simp only [execOp,ho,resolve,hcal,Sem.run_bind,Sem.run_pure,Result.andThen_ok,invoke,builtin,ea,et]
     have e2:(#[s',x']:Array Operand).map a.eval=#[a.eval s',a.eval x']:=by simp
     rw [e2]
     refine good_ex ⟨v,w',?_,G',g1,fun x hx=>by cases hx;exact g2⟩
     rw [hr];rfl
    cases hm
   ·rename_i sz s x c ho
    split at hm
    ·rename_i s' x' t t' hcal hargs htys
     simp only [Bae] at hm
     obtain ⟨⟨m1,m2⟩,m3⟩:=hm
     split at m3
     ·rename_i e hu
      have m4:szOf P e=some sz:=by simpa using m3
      simp only [Sim.evVs,Obe,Oie] at h1
      obtain ⟨p,hp,l1,⟨q,hq,l2,rfl,rfl⟩,rfl⟩:=h1
      simp only [wopOf] at h2
      obtain ⟨v,w',hr,G',g1,g2⟩:=sim_cpy (t:=t) (t2:=t') (ty:=o.type) h hu m4 (h.evV m1 hp) (h.evV m2 hq) h2
      have ea:c.args=#[s',x']:=Array.ext' (by simpa using hargs)
      have et:c.argTypes=#[t,t']:=Array.ext' (by simpa using htys)
      simp only [execOp,ho,resolve,hcal,Sem.run_bind,Sem.run_pure,Result.andThen_ok,invoke,builtin,ea,et]
      have e2:(#[s',x']:Array Operand).map a.eval=#[a.eval s',a.eval x']:=by simp
      rw [e2]
      refine good_ex ⟨v,w',?_,G',g1,fun x hx=>by cases hx;exact g2⟩
      rw [hr];rfl
     cases m3
    cases hm
   cases hm
end
end Go.Sim
namespace Go.Sim
open Go
def AO.rs:AO → List Nat
 | .t n=>[n]
 | _=>[]
def rsO:Option AO → List Nat
 | some x=>x.rs
 | none=>[]
def rsL (l:List AO):List Nat:=l.flatMap AO.rs
def rsP (l:List (Nat × Nat × AO)):List Nat:=l.flatMap fun x=>x.2.2.rs
def WOp.rg:WOp → Bool
 | .ixv _ _ _=>false
 | .snl _=>false
 | .mki _=>false
 | .ifn _=>false
 | .s2b=>false
 | _=>true
def WOp.wg:WOp → Bool
 | .ldv _=>false
 | k=>k.rg
theorem wop_same {k:WOp} (h:k.wg=false) {s:Sg} {l:List AV} {r:AV × Sg} (e:wopOf k s l=some r) (hr:k.rg=true):r.2=s:=by
 cases k <;> simp only [WOp.wg,WOp.rg,reduceCtorEq] at h hr
 rename_i n
 unfold wopOf at e
 split at e <;> first
  | (simp only [Obe,Oie] at e;obtain ⟨_,_,rfl⟩:=e;rfl)
  | (simp_all;done)
def AOp.rs:AOp → List Nat
 | .mv x=>x.rs
 | .pick c a b=>c.rs ++ a.rs ++ b.rs
 | .alloc _ _=>[]
 | .box _ x=>x.rs
 | .build _ ps=>rsP ps
 | .bsl _ ps=>rsL ps
 | .ld _ _ a=>a.rs
 | .st _ _ a x=>a.rs ++ x.rs
 | .nck x=>x.rs
 | .bin _ x y=>x.rs ++ y.rs
 | .beq _ x y=>x.rs ++ y.rs
 | .peq _ x y=>x.rs ++ y.rs
 | .mmx _ x y=>x.rs ++ y.rs
 | .aeq _ _ x y=>x.rs ++ y.rs
 | .unot x=>x.rs
 | .uneg x=>x.rs
 | .cvt _ x=>x.rs
 | .mkf _ fs cs=>rsL fs ++ rsL cs
 | .mkm _=>[]
 | .fa _ x=>x.rs
 | .fld _ _ x=>x.rs
 | .ia _ x i=>x.rs ++ i.rs
 | .iaa _ _ x i=>x.rs ++ i.rs
 | .ixs x i=>x.rs ++ i.rs
 | .lk _ _ _ m k=>m.rs ++ k.rs
 | .mu _ m k v=>m.rs ++ k.rs ++ v.rs
 | .dl _ m k=>m.rs ++ k.rs
 | .ext x _=>x.rs
 | .call f as=>f.rs ++ rsL as
 | .len _ x=>x.rs
 | .app _ _ s x=>s.rs ++ x.rs
 | .sl _ x lo hi mx=>x.rs ++ rsO lo ++ rsO hi ++ rsO mx
 | .sls x lo hi=>x.rs ++ rsO lo ++ rsO hi
 | .dfr f as=>f.rs ++ rsL as
 | .wop _ xs=>rsL xs
 | .ldo _ rt _ a=>rt :: a.rs
 | .callq ks f as=>ks ++ (f.rs ++ rsL as)
 | .sts _ _ a x=>a.rs ++ x.rs
 | .tas _ _ _ x=>x.rs
 | .inv _ x as=>x.rs ++ rsL as
def AOp.bar:AOp → Bool
 | .alloc true _=>true
 | .box true _=>true
 | _=>false
def AOp.rl:AOp → Bool
 | .ld _ _ _=>true
 | .st _ _ _ _=>true
 | _=>false
def AOp.wl:AOp → Bool
 | .st _ _ _ _=>true
 | _=>false
def AOp.rg:AOp → Bool
 | .ld h _ _=>h
 | .st h _ _ _=>h
 | .alloc false _=>true
 | .box false _=>true
 | .mkm _=>true
 | .lk _ _ _ _ _=>true
 | .mu _ _ _ _=>true
 | .dl _ _ _=>true
 | .call _ _=>true
 | .app _ _ _ _=>true
 | .dfr _ _=>true
 | .wop k _=>k.rg
 | .ldo _ _ _ _=>true
 | .sts _ _ _ _=>true
 | .callq _ _ _=>true
 | .inv _ _ _=>true
 | _=>false
def AOp.wg:AOp → Bool
 | .st h _ _ _=>h
 | .alloc false _=>true
 | .box false _=>true
 | .mkm _=>true
 | .mu _ _ _ _=>true
 | .dl _ _ _=>true
 | .call _ _=>true
 | .app _ _ _ _=>true
 | .dfr _ _=>true
 | .wop k _=>k.wg
 | .sts _ _ _ _=>true
 | .callq _ _ _=>true
 | .inv _ _ _=>true
 | _=>false
theorem wop_pure {k:WOp} (h:k.rg=false) (l:List AV):∃ v:Option AV,∀ s,wopOf k s l=v.map fun x=>(x,s):=by
 cases k <;> simp only [WOp.rg,reduceCtorEq] at h
 ·rename_i len sz n
  rcases l with _ | ⟨x,_ | ⟨i,_ | ⟨y,r⟩⟩⟩
  ·exact ⟨none,fun s=>rfl⟩
  ·exact ⟨none,fun s=>rfl⟩
  ·refine ⟨(asN i).bind fun i=>ixvOf len sz n i x,fun s=>?_⟩
   simp only [wopOf]
   cases asN i with
   | none=>rfl
   | some i=>simp only [Obs];cases ixvOf len sz n i x <;> rfl
  exact ⟨none,fun s=>rfl⟩
 ·rename_i ng
  rcases l with _ | ⟨x,_ | ⟨i,r⟩⟩
  ·exact ⟨none,fun s=>rfl⟩
  ·refine ⟨(snlOf x).map fun b=>.lit (.bool (if ng then !b else b)),fun s=>?_⟩
   simp only [wopOf]
   cases snlOf x <;> rfl
  exact ⟨none,fun s=>rfl⟩
 ·rename_i t
  rcases l with _ | ⟨x,_ | ⟨i,r⟩⟩
  ·exact ⟨none,fun s=>rfl⟩
  ·exact ⟨some (.iface t x),fun s=>rfl⟩
  exact ⟨none,fun s=>rfl⟩
 ·rename_i ng
  rcases l with _ | ⟨x,_ | ⟨i,r⟩⟩
  ·exact ⟨none,fun s=>rfl⟩
  ·refine ⟨(ifnOf x).map fun b=>.lit (.bool (if ng then !b else b)),fun s=>?_⟩
   simp only [wopOf]
   cases ifnOf x <;> rfl
  exact ⟨none,fun s=>rfl⟩
 rcases l with _ | ⟨x,_ | ⟨i,r⟩⟩
 ·exact ⟨none,fun s=>rfl⟩
 ·refine ⟨s2bOf x,fun s=>?_⟩
  simp only [wopOf]
  cases s2bOf x <;> rfl
 exact ⟨none,fun s=>rfl⟩
structure SameG (f f':Fr):Prop where
 nt:f.nt=f'.nt
 lv:f.lv=f'.lv
 df:f.df=f'.df
 sg:f.sg=f'.sg
structure Ag (x:AOp) (f f':Fr):Prop where
 env:∀ s,s ∈ x.rs → f.env s=f'.env s
 loc:x.rl=true → f.loc=f'.loc
 g:x.rg=true → SameG f f'
def mix (wl wg:Bool) (f g:Fr):Fr :=
 { env:=f.env,loc:=if wl then g.loc else f.loc,nt:=if wg then g.nt else f.nt,lv:=if wg then g.lv else f.lv,df:=if wg then g.df else f.df,sg:=if wg then g.sg else f.sg }
theorem mix_ff (f g:Fr):mix false false f g=f:=rfl
theorem ev_ag {f f':Fr} {x:AO} (h:∀ s,s ∈ x.rs → f.env s=f'.env s):ev f.env x=ev f'.env x:=by
 cases x with
 | t n=>exact h n (by simp [AO.rs])
 | _=>rfl
theorem evV_ag {f f':Fr} {x:AO} (h:∀ s,s ∈ x.rs → f.env s=f'.env s):evV f.env x=evV f'.env x:=by unfold evV;rw [ev_ag h]
theorem evVs_ag {f f':Fr}:∀ {l:List AO},(∀ s,s ∈ rsL l → f.env s=f'.env s) → evVs f.env l=evVs f'.env l
 | [],_=>rfl
 | x :: l,h=>by
   simp only [evVs]
   rw [evV_ag (x:=x) (fun s hs=>h s (by simp only [rsL,List.flatMap_cons,List.mem_append];exact .inl hs)),evVs_ag (l:=l) (fun s hs=>h s (by simp only [rsL,List.flatMap_cons,List.mem_append];exact .inr hs))]
theorem evPs_ag {f f':Fr}:∀ {l:List (Nat × Nat × AO)},(∀ s,s ∈ rsP l → f.env s=f'.env s) → evPs f.env l=evPs f'.env l
 | [],_=>rfl
 | (a,b,x) :: l,h=>by
  simp only [evPs]
  rw [evV_ag (x:=x) (fun s hs=>h s (by simp only [rsP,List.flatMap_cons,List.mem_append];exact .inl hs)),evPs_ag (l:=l) (fun s hs=>h s (by simp only [rsP,List.flatMap_cons,List.mem_append];exact .inr hs))]
theorem bound_ag {f f':Fr} {x:Option AO} {n:Nat} (h:∀ s,s ∈ rsO x → f.env s=f'.env s):boundOf f.env x n=boundOf f'.env x n:=by
 cases x with
 | none=>rfl
 | some x=>simp only [boundOf];rw [evV_ag h]
theorem Fr.ext' {f g:Fr} (h1:f.env=g.env) (h2:f.loc=g.loc) (h3:SameG f g):f=g:=by
 cases f;cases g;cases h3;simp_all
theorem stv_ag {v:AV} {f f':Fr} (h:SameG f f'):(stv v f).1=(stv v f').1 ∧ SameG (stv v f).2 (stv v f').2 ∧ (stv v f).2.env=f.env ∧ (stv v f).2.loc=f.loc:=by
 obtain ⟨h1,h2,h3,h4⟩:=h
 have gen:∀ g:Fr,(v.erT,g).1=v.erT:=fun _=>rfl
 cases v with
 | slice o sz xs =>
   cases o with
   | tip t =>
     simp only [stv,h2,h4]
     split
     ·exact ⟨rfl,⟨h1,rfl,h3,rfl⟩,rfl,rfl⟩
     exact ⟨rfl,⟨h1,h2,h3,h4⟩,rfl,rfl⟩
   | _=>exact ⟨rfl,⟨h1,h2,h3,h4⟩,rfl,rfl⟩
 | _=>exact ⟨rfl,⟨h1,h2,h3,h4⟩,rfl,rfl⟩
theorem mayApp_ag {o:Own} {f f':Fr} (h:SameG f f'):mayApp o f=(mayApp o f').map (mix false true f):=by
 obtain ⟨h1,h2,h3,h4⟩:=h
 cases o with
 | none=>rfl
 | full=>simp only [mayApp,Option.map_some,Oie];exact Fr.ext' rfl rfl ⟨h1,h2,h3,h4⟩
 | tip t =>
   simp only [mayApp,h2]
   split
   ·simp only [Option.map_some,Oie];exact Fr.ext' rfl rfl ⟨h1,rfl,h3,h4⟩
   rfl
 | gt g =>
   simp only [mayApp,h4]
   split
   ·simp only [Option.map_some,Oie];exact Fr.ext' rfl rfl ⟨h1,h2,h3,rfl⟩
   rfl
theorem appOf_ag {sz b:Nat} {o:Own} {xs ys:List AV} {f f':Fr} (h:SameG f f'):appOf sz b f o xs ys=(appOf sz b f' o xs ys).map fun r=>(r.1,mix false true f r.2):=by
 cases ys with
 | nil=>simp only [appOf,Option.map_some,Oie,Pie,true_and];exact Fr.ext' rfl rfl ⟨h.nt,h.lv,h.df,h.sg⟩
 | cons y ys =>
   simp only [appOf]
   split
   ·rw [mayApp_ag h]
    cases mayApp o f' with
    | none=>rfl
    | some g=>rfl
   rfl
theorem ldAt_ag {hf:Bool} {n:Option Nat} {p:TV} {f f':Fr} (hl:f.loc=f'.loc) (hg:hf=true → SameG f f'):ldAt f hf n p=ldAt f' hf n p:=by
 cases p with
 | loc i o=>simp only [ldAt,hl]
 | tup vs=>rfl
 | und=>rfl
 | val v =>
   cases v with
   | ptr i o =>
     simp only [ldAt]
     split
     ·rename_i h;rw [(hg h).sg]
     rfl
   | mp g o =>
     simp only [ldAt]
     split
     ·rename_i h;rw [(hg h).sg]
     rfl
   | _=>rfl
theorem stAt_ag {hf:Bool} {v:AV} {p:TV} {f f':Fr} (hl:f.loc=f'.loc) (hg:hf=true → SameG f f'):stAt f hf v p=(stAt f' hf v p).map (mix true hf f):=by
 have hm:∀ (g:Nat → Option (List AV)),{ f with loc:=g }=mix true hf f { f' with loc:=g }:=by
  intro g
  cases hf with
  | false=>rfl
  | true=>exact Fr.ext' rfl rfl ⟨(hg rfl).nt,(hg rfl).lv,(hg rfl).df,(hg rfl).sg⟩
 cases p with
 | loc i o =>
   simp only [stAt,hl]
   cases f'.loc i with
   | none=>rfl
   | some cs =>
     simp only [Obs]
     split
     ·simp only [Option.map_some,Oie];exact hm _
     rfl
 | tup vs=>rfl
 | und=>rfl
 | val w =>
   cases w with
   | ptr i o =>
     simp only [stAt]
     cases hf with
     | false=>rfl
     | true =>
       have h:=hg rfl
       obtain ⟨a1,a2,a3,a4⟩:=stv_ag (v:=v) h
       simp only [if_true,h.sg]
       split
       ·split
        ·simp only [Option.map_some,Oie]
         refine Fr.ext' a3 ?_ ⟨a2.nt,a2.lv,a2.df,by simp only [a2.sg,a1];rfl⟩
         have:=(stv_ag (v:=v) (f:=f') (f':=f') ⟨rfl,rfl,rfl,rfl⟩).2.2.2
         show (stv v f).2.loc=(stv v f').2.loc
         rw [a4,this,hl]
        rfl
       rfl
   | mp g o =>
     simp only [stAt]
     cases hf with
     | false=>rfl
     | true =>
       have h:=hg rfl
       obtain ⟨a1,a2,a3,a4⟩:=stv_ag (v:=v) h
       simp only [if_true,h.sg]
       cases f'.sg.mu g with
       | none=>rfl
       | some cs =>
         simp only [Obs]
         split
         ·simp only [Option.map_some,Oie]
          refine Fr.ext' a3 ?_ ⟨a2.nt,a2.lv,a2.df,by simp only [a2.sg,a1];rfl⟩
          have:=(stv_ag (v:=v) (f:=f') (f':=f') ⟨rfl,rfl,rfl,rfl⟩).2.2.2
          show (stv v f).2.loc=(stv v f').2.loc
          rw [a4,this,hl]
         rfl
   | _=>rfl
theorem mem_l {α:Type} {a b:List α} {s:α} (h:s ∈ a):s ∈ a ++ b:=List.mem_append_left _ h
theorem mem_r {α:Type} {a b:List α} {s:α} (h:s ∈ b):s ∈ a ++ b:=List.mem_append_right _ h
theorem keeps_ag {e e':Nat → Option TV} {s s':Sg}:∀ {ks:List Nat},(∀ k,k ∈ ks → e k=e' k) → (keeps e s s' ks ↔ keeps e' s s' ks)
 | [],_=>Iff.rfl
 | k :: ks,h=>by
   simp only [keeps,h k (List.mem_cons_self ..),keeps_ag (ks:=ks) (fun j hj=>h j (List.mem_cons_of_mem _ hj))]
theorem aop_ag {call:Caller} {d:Option Nat} {x:AOp} {f f':Fr} (hb:x.bar=false) (h:Ag x f f'):aop call d x f=(aop call d x f').map fun r=>(r.1,mix x.wl x.wg f r.2):=by
 have hs:=h.env
 cases x with
 | mv x=>simp only [aop,ev_ag (x:=x) hs];cases ev f'.env x <;> rfl
 | pick c p q =>
   simp only [aop,evV_ag (x:=c) (fun s m=>hs s (mem_l (mem_l m))),ev_ag (x:=p) (fun s m=>hs s (mem_l (mem_r m))),ev_ag (x:=q) (fun s m=>hs s (mem_r m))]
   cases evV f'.env c with
   | none=>rfl
   | some v =>
     simp only [Obs]
     cases asB v with
     | none=>rfl
     | some t =>
       simp only [Obs]
       cases (if t=true then ev f'.env p else ev f'.env q) <;> rfl
 | alloc lc z =>
   cases lc with
   | true=>cases hb
   | false =>
     have hg:=h.g rfl
     simp only [aop,Option.map_some,Oie,Pie,hg.sg,true_and]
     exact Fr.ext' rfl rfl ⟨hg.nt,hg.lv,hg.df,rfl⟩
 | box lc y =>
   cases lc with
   | true=>cases hb
   | false =>
     have hg:=h.g rfl
     simp only [aop,evV_ag (x:=y) hs,hg.sg]
     cases evV f'.env y with
     | none=>rfl
     | some v =>
       simp only [Obs,Option.map_some,Oie,Pie,true_and]
       exact Fr.ext' rfl rfl ⟨hg.nt,hg.lv,hg.df,rfl⟩
 | build z ps =>
   simp only [aop,evPs_ag (l:=ps) hs]
   cases evPs f'.env ps with
   | none=>rfl
   | some l=>simp only [Obs];cases fillA z l <;> rfl
 | bsl sz ps =>
   simp only [aop,evVs_ag (l:=ps) hs]
   cases evVs f'.env ps with
   | none=>rfl
   | some l=>simp only [Obs];split <;> rfl
 | ld hf n y =>
   simp only [aop,ev_ag (x:=y) hs]
   cases ev f'.env y with
   | none=>rfl
   | some p =>
     have hl:=ldAt_ag (hf:=hf) (n:=n) (p:=p) (h.loc rfl) h.g
     simp only [Obs,hl]
     cases ldAt f' hf n p <;> rfl
 | st hf n y v =>
   simp only [aop,ev_ag (x:=y) (fun s m=>hs s (mem_l m)),evV_ag (x:=v) (fun s m=>hs s (mem_r m))]
   cases ev f'.env y with
   | none=>rfl
   | some p =>
     simp only [Obs]
     cases evV f'.env v with
     | none=>rfl
     | some u =>
       simp only [Obs]
       split
       ·rw [stAt_ag (hf:=hf) (h.loc rfl) h.g]
        cases stAt f' hf u p <;> rfl
       rfl
 | nck y =>
   simp only [aop,ev_ag (x:=y) hs]
   cases ev f'.env y with
   | none=>rfl
   | some p=>simp only [Obs];cases nckOf p <;> rfl
 | bin op y z =>
   simp only [aop,evV_ag (x:=y) (fun s m=>hs s (mem_l m)),evV_ag (x:=z) (fun s m=>hs s (mem_r m))]
   cases evV f'.env y with
   | none=>rfl
   | some p =>
     cases evV f'.env z with
     | none=>rfl
     | some q=>simp only [Obs];cases abin op p q <;> rfl
 | beq ng y z =>
   simp only [aop,evV_ag (x:=y) (fun s m=>hs s (mem_l m)),evV_ag (x:=z) (fun s m=>hs s (mem_r m))]
   cases evV f'.env y with
   | none=>rfl
   | some p =>
     simp only [Obs]
     cases asB p with
     | none=>rfl
     | some b =>
       simp only [Obs]
       cases evV f'.env z with
       | none=>rfl
       | some q=>simp only [Obs];cases asB q <;> rfl
 | peq ng y z =>
   simp only [aop,ev_ag (x:=y) (fun s m=>hs s (mem_l m)),ev_ag (x:=z) (fun s m=>hs s (mem_r m))]
   cases ev f'.env y with
   | none=>rfl
   | some p =>
     simp only [Obs]
     cases isNilP p with
     | none=>rfl
     | some b =>
       simp only [Obs]
       cases ev f'.env z with
       | none=>rfl
       | some q =>
         simp only [Obs]
         cases isNilP q with
         | none=>rfl
         | some b'=>simp only [Obs];split <;> rfl
 | mmx mx y z =>
   simp only [aop,evV_ag (x:=y) (fun s m=>hs s (mem_l m)),evV_ag (x:=z) (fun s m=>hs s (mem_r m))]
   cases evV f'.env y with
   | none=>rfl
   | some p =>
     cases evV f'.env z with
     | none=>rfl
     | some q=>simp only [Obs];cases mmOf mx p q <;> rfl
 | aeq ng ks y z =>
   simp only [aop,evV_ag (x:=y) (fun s m=>hs s (mem_l m)),evV_ag (x:=z) (fun s m=>hs s (mem_r m))]
   cases evV f'.env y with
   | none=>rfl
   | some p =>
     cases evV f'.env z with
     | none=>rfl
     | some q=>simp only [Obs];cases aeqOf ks p q <;> rfl
 | unot y =>
   simp only [aop,evV_ag (x:=y) hs]
   cases evV f'.env y with
   | none=>rfl
   | some p=>simp only [Obs];cases asB p <;> rfl
 | uneg y =>
   simp only [aop,evV_ag (x:=y) hs]
   cases evV f'.env y with
   | none=>rfl
   | some p=>simp only [Obs];cases negOf p <;> rfl
 | cvt k y =>
   simp only [aop,evV_ag (x:=y) hs]
   cases evV f'.env y with
   | none=>rfl
   | some p=>simp only [Obs];cases asN p <;> rfl
 | mkf g fs cs =>
   simp only [aop,evVs_ag (l:=fs) (fun s m=>hs s (mem_l m)),evVs_ag (l:=cs) (fun s m=>hs s (mem_r m))]
   cases evVs f'.env fs with
   | none=>rfl
   | some p=>simp only [Obs];cases evVs f'.env cs <;> rfl
 | mkm kk =>
   have hg:=h.g rfl
   simp only [aop,Option.map_some,Oie,Pie,hg.sg,true_and]
   exact Fr.ext' rfl rfl ⟨hg.nt,hg.lv,hg.df,rfl⟩
 | fa off y =>
   simp only [aop,ev_ag (x:=y) hs]
   cases ev f'.env y with
   | none=>rfl
   | some p=>simp only [Obs];cases faOf off p <;> rfl
 | fld off n y =>
   simp only [aop,evV_ag (x:=y) hs]
   cases evV f'.env y with
   | none=>rfl
   | some p=>simp only [Obs];cases fldOf off n p <;> rfl
 | ia sz y z =>
   simp only [aop,evV_ag (x:=y) (fun s m=>hs s (mem_l m)),evV_ag (x:=z) (fun s m=>hs s (mem_r m))]
   cases evV f'.env y with
   | none=>rfl
   | some p =>
     cases evV f'.env z with
     | none=>rfl
     | some q =>
       simp only [Obs]
       cases asN q with
       | none=>rfl
       | some n=>simp only [Obs];cases iaOf sz n p <;> rfl
 | iaa len sz y z =>
   simp only [aop,ev_ag (x:=y) (fun s m=>hs s (mem_l m)),evV_ag (x:=z) (fun s m=>hs s (mem_r m))]
   cases ev f'.env y with
   | none=>rfl
   | some p =>
     cases evV f'.env z with
     | none=>rfl
     | some q =>
       simp only [Obs]
       cases asN q with
       | none=>rfl
       | some n =>
         simp only [Obs]
         split
         ·cases faOf (n.toNat * sz) p <;> rfl
         rfl
 | ixs y z =>
   simp only [aop,evV_ag (x:=y) (fun s m=>hs s (mem_l m)),evV_ag (x:=z) (fun s m=>hs s (mem_r m))]
   cases evV f'.env y with
   | none=>rfl
   | some p =>
     cases evV f'.env z with
     | none=>rfl
     | some q =>
       simp only [Obs]
       cases asN q with
       | none=>rfl
       | some n=>simp only [Obs];cases ixsOf n p <;> rfl
 | lk kk z ok m k =>
   have hg:=h.g rfl
   simp only [aop,evV_ag (x:=m) (fun s q=>hs s (mem_l q)),evV_ag (x:=k) (fun s q=>hs s (mem_r q)),hg.sg]
   cases evV f'.env m with
   | none=>rfl
   | some p =>
     cases evV f'.env k with
     | none=>rfl
     | some q =>
       simp only [Obs]
       cases keyOf kk q with
       | none=>rfl
       | some key=>simp only [Obs];cases lkOf f'.sg kk key p <;> rfl
 | sts m n y v =>
   have hg:=h.g rfl
   simp only [aop,evV_ag (x:=y) (fun s q=>hs s (mem_l q)),evV_ag (x:=v) (fun s q=>hs s (mem_r q)),hg.sg]
   cases evV f'.env y with
   | none=>rfl
   | some p =>
     simp only [Obs]
     cases evV f'.env v with
     | none=>rfl
     | some u =>
       simp only [Obs]
       cases stsS m n f'.sg u p with
       | none=>rfl
       | some r=>simp only [Obs,Option.map_some,Oie,Pie,true_and];exact Fr.ext' rfl rfl ⟨hg.nt,hg.lv,hg.df,rfl⟩
 | tas t z ok y =>
   simp only [aop,evV_ag (x:=y) hs]
   cases evV f'.env y with
   | none=>rfl
   | some p=>simp only [Obs];cases tasOf t z ok p <;> rfl
 | inv tb g as =>
   have hg:=h.g rfl
   simp only [aop,evV_ag (x:=g) (fun s q=>hs s (mem_l q)),evVs_ag (l:=as) (fun s q=>hs s (mem_r q)),hg.sg]
   cases evV f'.env g with
   | none=>rfl
   | some p =>
     simp only [Obs]
     cases evVs f'.env as with
     | none=>rfl
     | some l =>
       simp only [Obs]
       cases invOf call tb l f'.sg p with
       | none=>rfl
       | some r=>simp only [Obs,Option.map_some,Oie,Pie,true_and];exact Fr.ext' rfl rfl ⟨hg.nt,hg.lv,hg.df,rfl⟩
 | ldo tk rt n y =>
   have hg:=h.g rfl
   simp only [aop,ev_ag (x:=y) (fun s m=>hs s (List.mem_cons_of_mem _ m)),hs rt (List.mem_cons_self ..),hg.sg]
   cases f'.env rt with
   | none=>rfl
   | some q =>
     cases ev f'.env y with
     | none=>rfl
     | some p=>simp only [Obs];cases ldoAt tk f'.sg n q p <;> rfl
 | callq ks g as =>
   have hg:=h.g rfl
   simp only [aop,evV_ag (x:=g) (fun s q=>hs s (mem_r (mem_l q))),evVs_ag (l:=as) (fun s q=>hs s (mem_r (mem_r q))),hg.sg]
   cases evV f'.env g with
   | none=>rfl
   | some p =>
     simp only [Obs]
     cases evVs f'.env as with
     | none=>rfl
     | some l =>
       simp only [Obs]
       cases callOf call l f'.sg p with
       | none=>rfl
       | some r =>
         simp only [Obs]
         have hk:keeps f.env f.sg r.2 ks ↔ keeps f'.env f'.sg r.2 ks:=by
          rw [hg.sg]
          exact keeps_ag (fun s m=>hs s (mem_l m))
         unfold qres
         by_cases hh:keeps f'.env f'.sg r.2 ks
         ·rw [if_pos hh,if_pos (hk.2 hh)]
          simp only [Option.map_some,Oie,Pie,true_and]
          exact Fr.ext' rfl rfl ⟨hg.nt,hg.lv,hg.df,rfl⟩
         rw [if_neg hh,if_neg (fun x=>hh (hk.1 x))]
         rfl
 | wop k xs =>
   cases hk:k.rg with
   | true =>
     have hg:=h.g hk
     simp only [aop,evVs_ag (l:=xs) hs,hg.sg,AOp.wg,AOp.wl]
     cases evVs f'.env xs with
     | none=>rfl
     | some l =>
       simp only [Obs]
       cases hw:wopOf k f'.sg l with
       | none=>rfl
       | some r =>
         cases hwg:k.wg with
         | true=>simp only [Obs,Option.map_some,Oie,Pie,true_and];exact Fr.ext' rfl rfl ⟨hg.nt,hg.lv,hg.df,rfl⟩
         | false =>
           have hsame:=wop_same hwg hw hk
           simp only [Obs,Option.map_some,Oie,Pie,true_and,hsame]
           exact Fr.ext' rfl rfl ⟨rfl,rfl,rfl,hg.sg.symm⟩
   | false =>
     have hwg:k.wg=false:=by cases k <;> first | rfl | exact hk
     simp only [aop,evVs_ag (l:=xs) hs,AOp.wg,AOp.wl,hwg]
     cases evVs f'.env xs with
     | none=>rfl
     | some l =>
       obtain ⟨v,hv⟩:=wop_pure hk l
       simp only [Obs,hv]
       cases v <;> rfl
 | mu kk m k v =>
   have hg:=h.g rfl
   simp only [aop,evV_ag (x:=m) (fun s q=>hs s (mem_l (mem_l q))),evV_ag (x:=k) (fun s q=>hs s (mem_l (mem_r q))),evV_ag (x:=v) (fun s q=>hs s (mem_r q)),hg.sg]
   cases evV f'.env m with
   | none=>rfl
   | some p =>
     cases evV f'.env k with
     | none=>rfl
     | some q =>
       simp only [Obs]
       cases keyOf kk q with
       | none=>rfl
       | some key =>
         simp only [Obs]
         cases evV f'.env v with
         | none=>rfl
         | some u =>
           simp only [Obs]
           cases mapOf f'.sg kk p with
           | none=>rfl
           | some r=>simp only [Obs,Option.map_some,Oie,Pie,true_and];exact Fr.ext' rfl rfl ⟨hg.nt,hg.lv,hg.df,rfl⟩
 | dl kk m k =>
   have hg:=h.g rfl
   simp only [aop,evV_ag (x:=m) (fun s q=>hs s (mem_l q)),evV_ag (x:=k) (fun s q=>hs s (mem_r q)),hg.sg]
   cases evV f'.env m with
   | none=>rfl
   | some p =>
     cases evV f'.env k with
     | none=>rfl
     | some q =>
       simp only [Obs]
       cases keyOf kk q with
       | none=>rfl
       | some key =>
         simp only [Obs]
         cases mapOf f'.sg kk p with
         | none=>rfl
         | some r=>simp only [Obs,Option.map_some,Oie,Pie,true_and];exact Fr.ext' rfl rfl ⟨hg.nt,hg.lv,hg.df,rfl⟩
 | ext y i =>
   simp only [aop,ev_ag (x:=y) hs]
   cases ev f'.env y with
   | none=>rfl
   | some p=>simp only [Obs];cases extOf i p <;> rfl
 | call g as =>
   have hg:=h.g rfl
   simp only [aop,evV_ag (x:=g) (fun s q=>hs s (mem_l q)),evVs_ag (l:=as) (fun s q=>hs s (mem_r q)),hg.sg]
   cases evV f'.env g with
   | none=>rfl
   | some p =>
     simp only [Obs]
     cases evVs f'.env as with
     | none=>rfl
     | some l =>
       simp only [Obs]
       cases callOf call l f'.sg p with
       | none=>rfl
       | some r=>simp only [Obs,Option.map_some,Oie,Pie,true_and];exact Fr.ext' rfl rfl ⟨hg.nt,hg.lv,hg.df,rfl⟩
 | len st y =>
   simp only [aop,evV_ag (x:=y) hs]
   cases evV f'.env y with
   | none=>rfl
   | some p=>simp only [Obs];cases lenOfA st p <;> rfl
 | app sz b s y =>
   have hg:=h.g rfl
   simp only [aop,evV_ag (x:=s) (fun s q=>hs s (mem_l q)),evV_ag (x:=y) (fun s q=>hs s (mem_r q))]
   cases evV f'.env s with
   | none=>rfl
   | some p =>
     cases evV f'.env y with
     | none=>rfl
     | some q =>
       simp only [Obs]
       cases sliceOf sz p with
       | none=>rfl
       | some r1 =>
         cases sliceOf sz q with
         | none=>rfl
         | some r2=>simp only [Obs];exact appOf_ag hg
 | sl sz y lo hi mx =>
   simp only [aop,evV_ag (x:=y) (fun s q=>hs s (mem_l (mem_l (mem_l q))))]
   cases evV f'.env y with
   | none=>rfl
   | some p =>
     have:slOf sz f lo hi mx p=slOf sz f' lo hi mx p:=by
      cases p with
      | slice o sz' xs =>
        simp only [slOf,bound_ag (x:=lo) (n:=0) (fun s q=>hs s (mem_l (mem_l (mem_r q)))),bound_ag (x:=hi) (n:=xs.length) (fun s q=>hs s (mem_l (mem_r q)))]
        split
        ·rfl
        congr 1;funext l;congr 1;funext h'
        rw [bound_ag (x:=mx) (n:=h') (fun s q=>hs s (mem_r q))]
      | ms g off len sz' =>
        simp only [slOf,bound_ag (x:=lo) (n:=0) (fun s q=>hs s (mem_l (mem_l (mem_r q)))),bound_ag (x:=hi) (n:=len) (fun s q=>hs s (mem_l (mem_r q)))]
        split
        ·rfl
        congr 1;funext l;congr 1;funext h'
        rw [bound_ag (x:=mx) (n:=h') (fun s q=>hs s (mem_r q))]
      | _=>rfl
     simp only [Obs,this]
     cases slOf sz f' lo hi mx p <;> rfl
 | sls y lo hi =>
   simp only [aop,evV_ag (x:=y) (fun s q=>hs s (mem_l (mem_l q)))]
   cases evV f'.env y with
   | none=>rfl
   | some p =>
     have:slsOf f lo hi p=slsOf f' lo hi p:=by
      unfold slsOf
      split
      ·rename_i s
       rw [bound_ag (x:=lo) (n:=0) (fun s q=>hs s (mem_l (mem_r q))),bound_ag (x:=hi) (n:=s.size) (fun s q=>hs s (mem_r q))]
      rfl
     simp only [Obs,this]
     cases slsOf f' lo hi p <;> rfl
 | dfr g as =>
   have hg:=h.g rfl
   simp only [aop,evV_ag (x:=g) (fun s q=>hs s (mem_l q)),evVs_ag (l:=as) (fun s q=>hs s (mem_r q))]
   cases evV f'.env g with
   | none=>rfl
   | some p =>
     simp only [Obs]
     cases evVs f'.env as with
     | none=>rfl
     | some l =>
       simp only [Obs]
       cases p with
       | fn k a b=>simp only [dfrOf,Obs,Option.map_some,Oie,Pie,true_and];exact Fr.ext' rfl rfl ⟨hg.nt,hg.lv,by simp only [hg.df];rfl,hg.sg⟩
       | _=>rfl
def AIns.rs (i:AIns):List Nat:=(match i.g with | some (s,_)=>[s] | none=>[]) ++ i.op.rs
structure AgI (i:AIns) (f f':Fr):Prop where
 env:∀ s,s ∈ i.rs → f.env s=f'.env s
 loc:i.op.rl=true → f.loc=f'.loc
 g:i.op.rg=true → SameG f f'
def putE (d:Option Nat) (e e':Nat → Option TV):Nat → Option TV :=
 match d with
 | some k=>upd e k (e' k)
 | none=>e
def mixI (i:AIns) (f g:Fr):Fr:={ mix i.op.wl i.op.wg f g with env:=putE i.d f.env g.env }
theorem mixI_put (i:AIns) (f g:Fr) (v:Option TV):mixI i f (putD g i.d v)=putD (mix i.op.wl i.op.wg f g) i.d v:=by
 cases i with
 | mk d gg op =>
   cases d with
   | none=>rfl
   | some k =>
     refine Fr.ext' ?_ J ⟨J,J,J,J⟩
     funext j
     simp only [mixI,putE,putD,mix,upd]
     split <;> simp_all
theorem wl_rl {x:AOp} (h:x.wl=true):x.rl=true:=by cases x <;> simp_all [AOp.wl,AOp.rl]
theorem wg_rg {x:AOp} (h:x.wg=true):x.rg=true:=by
 cases x with
 | alloc lc _=>cases lc <;> simp_all [AOp.wg,AOp.rg]
 | box lc _=>cases lc <;> simp_all [AOp.wg,AOp.rg]
 | wop k _=>cases k <;> simp_all [AOp.wg,AOp.rg,WOp.wg,WOp.rg]
 | _=>simp_all [AOp.wg,AOp.rg]
theorem ins_ag {call:Caller} {i:AIns} {f f':Fr} (hb:i.op.bar=false) (h:AgI i f f'):ins call i f=(ins call i f').map (mixI i f):=by
 have ha:Ag i.op f f':=⟨fun s m=>h.env s (mem_r m),h.loc,h.g⟩
 have hrun:run1 call i f=(run1 call i f').map (mixI i f):=by
  unfold run1
  rw [aop_ag hb ha]
  cases aop call i.d i.op f' with
  | none=>rfl
  | some r =>
    simp only [Option.map_some,Obs,Oie]
    exact (mixI_put i f r.2 r.1).symm
 unfold ins
 cases hg:i.g with
 | none=>exact hrun
 | some p =>
   obtain ⟨s,want⟩:=p
   simp only
   rw [h.env s (by unfold AIns.rs;rw [hg];simp)]
   cases f'.env s with
   | none=>rfl
   | some v =>
     simp only [Obs]
     cases guardOf v with
     | none=>rfl
     | some b =>
       simp only [Obs]
       split
       ·exact hrun
       simp only [Option.map_some,Oie]
       rw [mixI_put]
       have hmm:mix i.op.wl i.op.wg f f'=f:=by
        refine Fr.ext' J ?_ ⟨?_,?_,?_,?_⟩
        ·simp only [mix];split
         ·rename_i e;exact (h.loc (wl_rl e)).symm
         rfl
        all_goals
         simp only [mix]
         split
         ·rename_i e;have:=h.g (wg_rg e);first | exact this.nt.symm | exact this.lv.symm | exact this.df.symm | exact this.sg.symm
         rfl
       rw [hmm]
def indep (i j:AIns):Bool :=
 !i.op.bar && !j.op.bar &&
 (match i.d with
   | some d=>!j.rs.contains d
   | none=>true) &&
 (match j.d with
   | some d=>!i.rs.contains d
   | none=>true) &&
 (match i.d,j.d with
   | some d,some e=>d != e
   | _,_=>true) &&
 !(i.op.wl && j.op.rl) && !(j.op.wl && i.op.rl) && !(i.op.wg && j.op.rg) && !(j.op.wg && i.op.rg)
theorem ag_of {call:Caller} {i j:AIns} {f g:Fr} (hb:i.op.bar=false) (hi:ins call i f=some g) (h1:∀ d,i.d=some d → d ∉ j.rs) (h2:¬ (i.op.wl=true ∧ j.op.rl=true)) (h3:¬ (i.op.wg=true ∧ j.op.rg=true)) :
 AgI j g f:=by
 have hself:=ins_ag (call:=call) (f:=f) (f':=f) hb ⟨fun _ _=>rfl,fun _=>rfl,fun _=>⟨rfl,rfl,rfl,rfl⟩⟩
 rw [hi] at hself
 simp only [Option.map_some,Oie] at hself
 refine ⟨?_,?_,?_⟩
 ·intro s hs
  rw [hself]
  simp only [mixI,putE]
  cases hd:i.d with
  | none=>rfl
  | some d =>
    simp only [upd]
    rw [if_neg (fun e=>h1 d hd (by rw [← e];exact hs))]
 ·intro hl
  rw [hself]
  simp only [mixI,mix]
  rw [if_neg (fun e=>h2 ⟨e,hl⟩)]
 intro hl
 have e:¬ i.op.wg=true:=fun e=>h3 ⟨e,hl⟩
 rw [hself]
 refine ⟨?_,?_,?_,?_⟩ <;> (simp only [mixI,mix];rw [if_neg e])
theorem comm {call:Caller} {i j:AIns} (h:indep i j=true) (f:Fr):(ins call i f).bind (ins call j)=(ins call j f).bind (ins call i):=by
 simp only [indep,Bae,Bool.not_eq_true',Bool.and_eq_false_iff] at h
 obtain ⟨⟨⟨⟨⟨⟨⟨⟨bi,bj⟩,d1⟩,d2⟩,d3⟩,l1⟩,l2⟩,g1⟩,g2⟩:=h
 have hd1:∀ d,i.d=some d → d ∉ j.rs:=fun d e=>by rw [e] at d1;simpa using d1
 have hd2:∀ d,j.d=some d → d ∉ i.rs:=fun d e=>by rw [e] at d2;simpa using d2
 have nn:∀ {a b:Bool},(a=false ∨ b=false) → ¬ (a=true ∧ b=true):=fun h=>by rcases h with h | h <;> simp [h]
 cases hi:ins call i f with
 | none =>
   cases hj:ins call j f with
   | none=>rfl
   | some q =>
     have:=ins_ag (call:=call) bi (ag_of bj hj hd2 (nn l2) (nn g2))
     rw [hi] at this
     simp only [Option.bind_none,Obs,this,Option.map_none]
 | some p =>
   have hj1:=ins_ag (call:=call) bj (ag_of bi hi hd1 (nn l1) (nn g1))
   cases hj:ins call j f with
   | none =>
     rw [hj] at hj1
     simp only [Option.bind_none,Obs,hj1,Option.map_none]
   | some q =>
     have hi1:=ins_ag (call:=call) bi (ag_of bj hj hd2 (nn l2) (nn g2))
     rw [hj] at hj1
     rw [hi] at hi1
     simp only [Obs,hj1,hi1,Option.map_some,Oie]
     have sp:=ins_ag (call:=call) (f:=f) (f':=f) bi ⟨fun _ _=>rfl,fun _=>rfl,fun _=>⟨rfl,rfl,rfl,rfl⟩⟩
     have sq:=ins_ag (call:=call) (f:=f) (f':=f) bj ⟨fun _ _=>rfl,fun _=>rfl,fun _=>⟨rfl,rfl,rfl,rfl⟩⟩
     rw [hi] at sp
     rw [hj] at sq
     simp only [Option.map_some,Oie] at sp sq
     refine Fr.ext' ?_ ?_ ⟨?_,?_,?_,?_⟩
     ·funext s
      have e1:p.env s=(putE i.d f.env p.env) s:=congrFun (congrArg Fr.env sp) s
      have e2:q.env s=(putE j.d f.env q.env) s:=congrFun (congrArg Fr.env sq) s
      simp only [mixI,putE] at e1 e2 ⊢
      cases hid:i.d with
      | none =>
        rw [hid] at e1
        cases hjd:j.d with
        | none=>rw [hjd] at e2;simp only at e1 e2 ⊢;rw [e1,e2]
        | some dj =>
          rw [hjd] at e2
          simp only [upd] at e1 e2 ⊢
          split
          ·rename_i hh;rw [hh]
          rename_i hne;rw [if_neg hne] at e2;rw [e1,e2]
      | some di =>
        rw [hid] at e1 d3
        cases hjd:j.d with
        | none =>
          rw [hjd] at e2
          simp only [upd] at e1 e2 ⊢
          split
          ·rename_i hh;subst hh;rfl
          rename_i hne;rw [if_neg hne] at e1;rw [e1,e2]
        | some dj =>
          rw [hjd] at e2 d3
          have hne':di ≠ dj:=by simpa using d3
          simp only [upd] at e1 e2 ⊢
          by_cases h1:s=di
          ·subst h1;rw [if_neg hne',if_pos rfl]
          by_cases h2:s=dj
          ·subst h2;rw [if_pos rfl,if_neg h1]
          rw [if_neg h2,if_neg h1];rw [if_neg h1] at e1;rw [if_neg h2] at e2;rw [e1,e2]
     ·have e1:=congrArg Fr.loc sp
      have e2:=congrArg Fr.loc sq
      simp only [mixI,mix] at e1 e2 ⊢
      cases hw1:i.op.wl <;> cases hw2:j.op.wl <;> simp only [hw1,hw2,if_true,Bool.false_eq_true,if_false] at e1 e2 ⊢
      ·rw [e1,e2]
      exact absurd ⟨hw1,wl_rl hw2⟩ (nn l1)
     all_goals
      have e1:=sp
      have e2:=sq
      simp only [mixI,mix] at e1 e2 ⊢
      cases hw1:i.op.wg <;> cases hw2:j.op.wg <;> simp only [hw1,hw2,if_true,Bool.false_eq_true,if_false] at e1 e2 ⊢
      ·first
        | (have k1:=congrArg Fr.nt e1;have k2:=congrArg Fr.nt e2;simp only at k1 k2;rw [k1,k2])
        | (have k1:=congrArg Fr.lv e1;have k2:=congrArg Fr.lv e2;simp only at k1 k2;rw [k1,k2])
        | (have k1:=congrArg Fr.df e1;have k2:=congrArg Fr.df e2;simp only at k1 k2;rw [k1,k2])
        | (have k1:=congrArg Fr.sg e1;have k2:=congrArg Fr.sg e2;simp only at k1 k2;rw [k1,k2])
      exact absurd ⟨hw1,wg_rg hw2⟩ (nn g1)
end Go.Sim
