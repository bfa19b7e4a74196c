/-
  A part of a proof: see the last text of this claim.
-/
import Derived.Test.YtljdbieojelmjaaPG
set_option linter.unusedVariables false
set_option linter.unusedSimpArgs false
namespace Go.Sim.W
open Go Go.Sim
theorem lt_of_get {α:Type} {l:List α} {i:Nat} {a:α} (h:l[i]?=some a):i < l.length:=by
 rcases Nat.lt_or_ge i l.length with h' | h'
 ·exact h'
 rw [List.getElem?_eq_none h'] at h;cases h
theorem HS.klq {i:Nat} {h:RH} {S S':Sg} (k:HS i h S) (e:KL [] S S'):HS i h S':=⟨k.1.kl e (by simp),k.2⟩
def wrel (G:Int → Int → Prop) (w u:Word):Prop:=w.ref=u.ref ∧ (w.ref=true → G w.n u.n) ∧ (w.ref=false → w.n=u.n)
def wrels (G:Int → Int → Prop) (a b:List Word):Prop:=a.length=b.length ∧ ∀ (i:Nat) (w u:Word),a[i]?=some w → b[i]?=some u → wrel G w u
structure Iso (G:Int → Int → Prop) (A B:List HOb):Prop where
 ob:∀ x y,G x y → ∃ o u,obAt A x=some o ∧ obAt B y=some u ∧ o.tag=u.tag ∧ wrels G o.fs u.fs
 fn:∀ x y y',G x y → G x y' → y=y'
 inj:∀ x x' y,G x y → G x' y → x=x'
theorem Iso.valid {G:Int → Int → Prop} {A B:List HOb} (h:Iso G A B) {a b:List Word} (w:wrels G a b):validW A a=true ∧ validW B b=true:=by
 refine ⟨List.all_eq_true.2 fun x hx=>?_,List.all_eq_true.2 fun x hx=>?_⟩
 ·obtain ⟨i,hi⟩:=List.getElem?_of_mem hx
  obtain ⟨u,hu⟩:=get_of_lt (l:=b) (i:=i) (by rw [← w.1];exact lt_of_get hi)
  obtain ⟨e,g,_⟩:=w.2 i x u hi hu
  cases hr:x.ref with
  | false=>rfl
  | true =>
    obtain ⟨o,_,h1,_⟩:=h.ob _ _ (g hr)
    simp [hasF,h1]
 obtain ⟨i,hi⟩:=List.getElem?_of_mem hx
 obtain ⟨u,hu⟩:=get_of_lt (l:=a) (i:=i) (by rw [w.1];exact lt_of_get hi)
 obtain ⟨e,g,_⟩:=w.2 i u x hu hi
 cases hr:x.ref with
 | false=>rfl
 | true =>
   obtain ⟨_,o,_,h1,_⟩:=h.ob _ _ (g (e.trans hr))
   simp [hasF,h1]
def encQ (p:Int × Int):AV:=.agg [I p.1,I p.2]
def mapQ (q:List (Int × Int)):Value → Option AV
 | .int .i64 x=>(q.find? fun p=>decide (p.1=x)).map fun p=>I p.2
 | _=>none
def swapQ (q:List (Int × Int)):List (Int × Int):=q.map fun p=>(p.2,p.1)
theorem mapQ_nil:mapQ []=fun _=>none:=by
 funext k
 unfold mapQ
 split <;> rfl
theorem mapQ_add {q:List (Int × Int)} {x:Int} (y:Int) (h:mapQ q (.int .i64 x)=none):mset (mapQ q) (.int .i64 x) (some (I y))=mapQ (q ++ [(x,y)]):=by
 have h':q.find? (fun p=>decide (p.1=x))=none:=Option.map_eq_none_iff.1 h
 funext k
 unfold mset
 by_cases hk:k=.int .i64 x
 ·subst hk
  simp only [if_true,mapQ,List.find?_append,h',Option.none_or,List.find?_cons,Dte]
  simp
 rw [if_neg hk]
 cases k <;> try rfl
 rename_i kd n
 cases kd <;> try rfl
 have hne:¬ x=n:=fun e=>hk (by rw [e])
 simp [mapQ,List.find?_append,hne]
theorem swapQ_app (q:List (Int × Int)) (x y:Int):swapQ (q ++ [(x,y)])=swapQ q ++ [(y,x)]:=by simp [swapQ]
theorem HInv.clq {h:RH} (k:HInv h):(cellsF h.obs).length ≤ 2 ^ 40:=Nat.le_trans k.le (by decide)
def IQ (G:Int → Int → Prop) (q:List (Int × Int)):Prop:=(∀ p ∈ q,G p.1 p.2) ∧ (q.map (·.1)).Nodup
theorem look_both {G:Int → Int → Prop} {A B:List HOb} (h:Iso G A B) {q:List (Int × Int)} (hq:IQ G q) {x y:Int} (g:G x y) :
 (mapQ q (.int .i64 x)=none ∧ mapQ (swapQ q) (.int .i64 y)=none) ∨ (mapQ q (.int .i64 x)=some (I y) ∧ mapQ (swapQ q) (.int .i64 y)=some (I x)):=by
 have sw:∀ p,p ∈ swapQ q → (p.2,p.1) ∈ q:=fun p hp=>by
  obtain ⟨r,hr,rfl⟩:=List.mem_map.1 hp
  exact hr
 cases e:q.find? (fun p=>decide (p.1=x)) with
 | none =>
   refine .inl ⟨by simp only [mapQ,e,Option.map_none],?_⟩
   cases e2:(swapQ q).find? (fun p=>decide (p.1=y)) with
   | none=>simp only [mapQ,e2,Option.map_none]
   | some p =>
     have h1:=sw p (List.mem_of_find?_eq_some e2)
     have h2:p.1=y:=by simpa using List.find?_some e2
     have h3:=hq.1 _ h1
     have h4:=h.inj _ _ _ (h2 ▸ h3) g
     have:=List.find?_eq_none.1 e _ h1
     simp at this
     exact absurd h4 this
 | some p =>
   have h1:=List.mem_of_find?_eq_some e
   have h2:p.1=x:=by simpa using List.find?_some e
   have h3:p.2=y:=h.fn x _ _ (h2 ▸ hq.1 p h1) g
   refine .inr ⟨by simp only [mapQ,e,Option.map_some,h3],?_⟩
   cases e2:(swapQ q).find? (fun p=>decide (p.1=y)) with
   | none =>
     have:=List.find?_eq_none.1 e2 (p.2,p.1) (List.mem_map.2 ⟨p,h1,rfl⟩)
     simp at this
     exact absurd h3 this
   | some r =>
     have k1:=sw r (List.mem_of_find?_eq_some e2)
     have k2:r.1=y:=by simpa using List.find?_some e2
     have k3:=h.inj _ _ _ (k2 ▸ hq.1 _ k1) g
     simp only [mapQ,e2,Option.map_some]
     rw [show r.2=x from k3]
theorem look_or {G:Int → Int → Prop} {A B:List HOb} (h:Iso G A B) {q:List (Int × Int)} (hq:IQ G q) {b:Bool} {x y:Int} (g:b=true → G x y) :
 ¬ b=true ∨ (mapQ q (.int .i64 x)=none ∧ mapQ (swapQ q) (.int .i64 y)=none) ∨ (mapQ q (.int .i64 x)=some (I y) ∧ mapQ (swapQ q) (.int .i64 y)=some (I x)) :=
 (Classical.em (b=true)).elim (fun e=>.inr (look_both h hq (g e))) .inl
theorem IQ.len {G:Int → Int → Prop} {A B:List HOb} (h:Iso G A B) {q:List (Int × Int)} (hq:IQ G q):q.length ≤ A.length:=by
 have:=nd_len (q.map (·.1)) (A.map (·.at_)) hq.2 fun x hx=>by
  obtain ⟨p,hp,rfl⟩:=List.mem_map.1 hx
  obtain ⟨o,_,ho,_⟩:=h.ob _ _ (hq.1 p hp)
  exact List.mem_map.2 ⟨o,obAt_mem ho,obAt_at ho⟩
 simpa using this
theorem IQ.add {G:Int → Int → Prop} {q:List (Int × Int)} (hq:IQ G q) {x y:Int} (g:G x y) (h:mapQ q (.int .i64 x)=none):IQ G (q ++ [(x,y)]):=by
 have h':q.find? (fun p=>decide (p.1=x))=none:=Option.map_eq_none_iff.1 h
 refine ⟨fun p hp=>?_,?_⟩
 ·rcases List.mem_append.1 hp with hp | hp
  ·exact hq.1 p hp
  obtain rfl:=List.mem_singleton.1 hp
  exact g
 rw [List.map_append]
 refine List.nodup_append.2 ⟨hq.2,by simp,fun a ha b hb e=>?_⟩
 obtain ⟨p,hp,rfl⟩:=List.mem_map.1 ha
 have hb':b=x:=by simpa using hb
 have:=List.find?_eq_none.1 h' p hp
 simp at this
 exact this (e.trans hb')
def CanG (g0:Nat) (o:Own) (S:Sg):Prop:=o=.full ∨ ∃ g,o=.gt g ∧ S.gl g=true ∧ g < S.gn ∧ g0 ≤ g
structure QS (s0:Sg) (q:List (Int × Int)) (S:Sg):Prop where
 mu:S.mu=s0.mu
 mn:S.mn=s0.mn
 nx:s0.nx + 5 ≤ S.nx
 ob:∀ i,i < s0.nx → S.ob i=s0.ob i
 Q:S.Q=s0.Q
 gn:s0.gn ≤ S.gn
 gl:∀ g,g < s0.gn → S.gl g=s0.gl g
 k1:S.ob s0.nx=some (.map (.int .i64) (mapQ q))
 k2:S.ob (s0.nx + 1)=some (.map (.int .i64) (mapQ (swapQ q)))
 h1:S.ob (s0.nx + 2)=some (.row [.map s0.nx])
 h2:S.ob (s0.nx + 3)=some (.row [.map (s0.nx + 1)])
 h3:∃ o,S.ob (s0.nx + 4)=some (.row [.slice o 2 (q.map encQ)]) ∧ CanG s0.gn o S
theorem QS.kl {s0 S:Sg} {q:List (Int × Int)} (h:QS s0 q S):KL [] s0 S :=
 ⟨⟨by have:=h.nx;omega,h.ob,h.gn,h.gl,h.Q⟩,by rw [h.mn];exact Nat.le_refl _,fun g _ _=>by rw [h.mu]⟩
theorem QS.rl {s0 S:Sg} {q:List (Int × Int)} (h:QS s0 q S) {sz:Nat} {v:AV} {xs:List AV} (r:RL sz v xs s0):RL sz v xs S:=r.mono (fun g _ _=>by rw [h.mu]) (by rw [h.mn];exact Nat.le_refl _)
theorem QS.lr {s0 S:Sg} {q:List (Int × Int)} (h:QS s0 q S) {sz:Nat} {v:AV} {xs:List AV} (r:RL sz v xs S):RL sz v xs s0:=r.mono (fun g _ _=>by rw [h.mu]) (by rw [h.mn];exact Nat.le_refl _)
theorem QS.add {s0 S:Sg} {q:List (Int × Int)} (h:QS s0 q S) (x y:Int) (gl:Nat → Bool) (g1:gl S.gn=true) (g2:∀ g,g < s0.gn → gl g=S.gl g) :
 QS s0 (q ++ [(x,y)]) { S with gl:=gl,gn:=S.gn + 1,ob:=upd (upd (upd S.ob s0.nx (some (.map (.int .i64) (mapQ (q ++ [(x,y)]))))) (s0.nx + 1) (some (.map (.int .i64) (mapQ (swapQ (q ++ [(x,y)])))))) (s0.nx + 4) (some (.row [.slice (.gt S.gn) 2 ((q ++ [(x,y)]).map encQ)])) }:=by
 refine ⟨h.mu,h.mn,h.nx,fun i hi=>?_,h.Q,Nat.le_succ_of_le h.gn,fun g hg=>(g2 g hg).trans (h.gl g hg),?_,?_,?_,?_,⟨_,upd_same _ _ _,.inr ⟨_,J,g1,Nat.lt_succ_self _,h.gn⟩⟩⟩
 ·show upd (upd (upd _ _ _) _ _) _ _ i=_
  rw [upd_ne _ _ (by omega),upd_ne _ _ (by omega),upd_ne _ _ (by omega)]
  exact h.ob i hi
 ·show upd (upd (upd _ _ _) _ _) _ _ _=_
  rw [upd_ne _ _ (by omega),upd_ne _ _ (by omega),upd_same]
 ·show upd (upd (upd _ _ _) _ _) _ _ _=_
  rw [upd_ne _ _ (by omega),upd_same]
 ·show upd (upd (upd _ _ _) _ _) _ _ _=_
  rw [upd_ne _ _ (by omega),upd_ne _ _ (by omega),upd_ne _ _ (by omega)]
  exact h.h1
 show upd (upd (upd _ _ _) _ _) _ _ _=_
 rw [upd_ne _ _ (by omega),upd_ne _ _ (by omega),upd_ne _ _ (by omega)]
 exact h.h2
def qs0 (s:Sg):Sg:=((((((s.new (.map (.int .i64) fun _=>none)).new (.map (.int .i64) fun _=>none)).new (.row [.lit (.map none)])).new (.row [.lit (.map none)])).set (s.nx + 2) (.row [.map s.nx])).set (s.nx + 3) (.row [.map (s.nx + 1)])).new (.row [.slice .full 2 []])
theorem qs_b1 (s:Sg) (o1 o2 o3 o4:AObj):((((s.new o1).new o2).new o3).new o4).ob (s.nx + 2)=some o3:=by
 simp [Sg.new,upd]
theorem qs_b2 (s:Sg) (o1 o2 o3 o4 o5:AObj):(((((s.new o1).new o2).new o3).new o4).set (s.nx + 2) o5).ob (s.nx + 3)=some o4:=by
 simp [Sg.new,Sg.set,upd]
theorem qs_init (s:Sg):QS s [] (qs0 s):=by
 refine ⟨J,J,Nat.le_refl _,fun i hi=>?_,J,Nat.le_refl _,fun _ _=>J,?_,?_,?_,?_,⟨.full,?_,.inl J⟩⟩
 ·simp only [qs0,Sg.new,Sg.set,upd]
  rw [if_neg (by omega),if_neg (by omega),if_neg (by omega),if_neg (by omega),if_neg (by omega),if_neg (by omega),if_neg (by omega)]
 ·simp [qs0,Sg.new,Sg.set,upd,mapQ_nil]
  rw [if_neg (by omega),if_neg (by omega),if_neg (by omega)]
 all_goals simp [qs0,Sg.new,Sg.set,upd,mapQ_nil,swapQ]
section
variable {c:Caller} {E:Nat → Option TV} {L:Nat → Option (List AV)} {n:Nat} {v:Nat → Bool} {D:List (Nat × List AV)} {S:Sg} {l:List AIns} {Q:Fr → Prop}
theorem hapQ {d sz by_ g0:Nat} {s x:AO} {o o':Own} {xs ys r:List AV} (h1:evV E s=some (.slice o sz xs)) (h2:evV E x=some (.slice o' sz ys)) (hc:CanG g0 o S) (hne:ys ≠ []) (hlen:(xs.length + ys.length) * by_ ≤ 2 ^ 47) (hr:xs ++ ys=r)
 (k:∀ v' gl',v' n=true → (∀ g,g < g0 → gl' g=S.gl g) → HL c l ⟨upd E d (some (.val (.slice (.tip n) sz r))),L,n + 1,v',D,{ S with gl:=gl' }⟩ Q):HL c (⟨some d,none,.app sz by_ s x⟩ :: l) ⟨E,L,n,v,D,S⟩ Q:=by
 rcases hc with rfl | ⟨g,rfl,hg,_,hg0⟩
 ·subst hr
  exact hapF h1 h2 hne hlen fun v' a b=>k v' S.gl a fun _ _=>rfl
 subst hr
 cases ys with
 | nil=>exact absurd rfl hne
 | cons y ys =>
   refine hop ?_ (k (fun j=>if j=n then true else v j) (fun j=>if j=g then false else S.gl j) (by simp) (fun j hj=>by rw [if_neg (by omega)]))
   simp only [ins,run1,aop,h1,h2,Obs,sliceOf,if_true,appOf,if_pos hlen,mayApp,hg]
   rfl
theorem hstQ {id off t sz:Nat} {a x:AO} {xs cs cs':List AV} (h1:evV E x=some (.slice (.tip t) sz xs)) (h2:ev E a=some (.val (.ptr id off))) (h3:S.ob id=some (.row cs)) (h4:off + 1 ≤ cs.length) (ht:v t=true) (h6:wr cs off [.slice (.gt S.gn) sz xs]=cs')
 (k:∀ v' gl',gl' S.gn=true → (∀ g,g < S.gn → gl' g=S.gl g) → HL c l ⟨E,L,n,v',D,{ S with gl:=gl',gn:=S.gn + 1,ob:=upd S.ob id (some (.row cs')) }⟩ Q):HL c (⟨none,none,.st true 1 a x⟩ :: l) ⟨E,L,n,v,D,S⟩ Q:=by
 subst h6
 refine hop ?_ (k (fun j=>if j=t then false else v j) (fun j=>if j=S.gn then true else S.gl j) (by simp) (fun g hg=>by rw [if_neg (by omega)]))
 simp only [ins,run1,aop,h1,h2,Obs,stAt,if_true,h3,stv,ht,AV.cells,List.length_cons,List.length_nil,Nat.zero_add,if_pos h4]
 rfl
theorem hldoq {d rt id off:Nat} {m:Option Nat} {a:AO} {y:AV} {cs:List AV} {off0:Nat} (h0:E rt=some (.val (.ptr id off0))) (h1:ev E a=some (.val (.ptr id off))) (h2:S.ob id=some (.row cs)) (h3:rd m cs off=some y)
 (k:HL c l ⟨upd E d (some (.val y)),L,n,v,D,S⟩ Q):HL c (⟨some d,none,.ldo false rt m a⟩ :: l) ⟨E,L,n,v,D,S⟩ Q :=
 hop (by simp only [ins,run1,aop,h0,h1,Obs,ldoAt,h2,h3];rfl) k
end
theorem hsame_l (s0:Sg) (G:Int → Int → Prop) (A B':List HOb) (iso:Iso G A B') (hA:A.length ≤ 2 ^ 20) (a b:List Word) (va vb:AV) (hw:wrels G a b) (hl:a.length ≤ 2 ^ 40) (hva:RL 2 va (wcs a) s0) (hvb:RL 2 vb (wcs b) s0) (j:Nat) (hj:j ≤ a.length) (q:List (Int × Int)) (hI:IQ G q) {n:Nat} {v:Nat → Bool} {D:List (Nat × List AV)} {S:Sg} {Q:Ex → Fr → Prop} (hQ:QS s0 q S)
 (hX:∀ k n' v' q' S',IQ G q' → QS s0 q' S' → q.length ≤ q'.length → Q (.exit 0) ⟨upd (upd (upd (upd (upd (upd (upd (upd ((fun _=>none)) 23 (some (.val (B false)))) 22 (some (.val (I k)))) 21 (some (.val (I a.length)))) 20 (some (.val va))) 4 (some (.val (.ptr (s0.nx + 4) 0)))) 3 (some (.val (.ptr (s0.nx + 3) 0)))) 2 (some (.val (.ptr (s0.nx + 2) 0)))) 1 (some (.val vb)),(fun _=>none),n',v',D,S'⟩):EX (callL p) (.loop F31_l1) ⟨upd (upd (upd (upd (upd (upd (upd ((fun _=>none)) 22 (some (.val (I j)))) 21 (some (.val (I a.length)))) 20 (some (.val va))) 4 (some (.val (.ptr (s0.nx + 4) 0)))) 3 (some (.val (.ptr (s0.nx + 3) 0)))) 2 (some (.val (.ptr (s0.nx + 2) 0)))) 1 (some (.val vb)),(fun _=>none),n,v,D,S⟩ Q:=by
 refine eloop (er (qp J (qb ?_)))
 rintro (_ | _) h1
 refine qn (kq8 J) kn (eseq (ecF J (eexit (sqx ?_))))
 exact hX _ _ _ _ _ hI hQ (Nat.le_refl _)
 refine qn (kq8 J) kn (eseq (ecT J (eskip (sqn (eseq (eblock (er (qp J ?_))))))))
 have hlt:j < a.length:=by simpa using h1
 obtain ⟨w,hw0⟩:=get_of_lt hlt
 obtain ⟨u,hu0⟩:=get_of_lt (l:=b) (i:=j) (by rw [← hw.1];exact hlt)
 obtain ⟨e0,e1,e2⟩:=hw.2 j w u hw0 hu0
 have hlb:=look_or iso hI e1
 obtain ⟨q1,p1,p2⟩:=(hQ.rl hva).at_ (j:=(j:Int)) (y:=w.enc) (by omega) (by rw [wcs,Lgm,Int.toNat_natCast,hw0];rfl)
 refine hiaR rfl rfl p1 (hldR (y:=.agg [B w.ref,I w.n]) rfl p2 rfl (hal (dc (dc (dc (dc (dc (dc (dc (dc (dc (dc (dc dn rfl) rfl) rfl) rfl) rfl) rfl) rfl) rfl) rfl) rfl) rfl) (qp rfl (hstl rfl rfl rfl rfl (Nlb rfl) (lc rfl (lc rfl (ln rfl))) (qk (kc rfl (kc rfl (kc rfl (kc rfl (kc rfl (kc rfl (kc rfl (kc rfl (kc rfl kn))))))))) (kc rfl kn) (sqn (eseq (ereg (qp rfl (qp rfl ?_))))))))))
 obtain ⟨q2,p3,p4⟩:=(hQ.rl hvb).at_ (j:=(j:Int)) (y:=u.enc) (by omega) (by rw [wcs,Lgm,Int.toNat_natCast,hu0];rfl)
 refine hiaR rfl rfl p3 (hldR (y:=.agg [B u.ref,I u.n]) rfl p4 rfl (hal (dc (dc (dc (dc (dc (dc (dc (dc (dc (dc (dc (dc (dc dn rfl) rfl) rfl) rfl) rfl) rfl) rfl) rfl) rfl) rfl) rfl) rfl) rfl) (hstl rfl rfl rfl rfl (Nlb rfl) (lc rfl (lc rfl (ln rfl))) (qk (kc rfl (kc rfl (kc rfl (kc rfl (kc rfl (kc rfl (kc rfl (kc rfl (kc rfl kn))))))))) (kc rfl (kc rfl kn)) (sqn (eseq (eseq (ereg (qp rfl (qp rfl (qp rfl (qp rfl (qp rfl (qb ?_))))))))))))))
 rintro (_ | _) h2
 refine qp J (qg J (qp J (qg J (qp J (qb ?_)))))
 rintro (_ | _) h3
 refine qg J (qp J (qg J (qp J (qg J (qp J (qg J (qp J (qg J (qp J (qg J (qp J (qg J (qp J (qb ?_))))))))))))))
 rintro (_ | _) h4
 refine qg J (pq2 J (qn (kq10 J) (kq2 J) (ecF J (eskip (sqn (eseq (er (pq2 J (qb ?_)))))))))
 rintro (_ | _) h5
 refine qp J (qn (kq10 J) (kq2 J) (ecT J (eexit (sqx (bqx (sqn (ereg (hadd J J (i64w (by omega)) (qp J (qk (kq7 J) kn ?_))))))))))
 first
 | exact hsame_l s0 G A B' iso hA a b va vb hw hl hva hvb (j + 1) (by omega) _ hI2 hQ2 fun k n' v' q' S' h1 h2 h3=>hX k n' v' q' S' h1 h2 (by simp at h3;omega)
 | exact hsame_l s0 G A B' iso hA a b va vb hw hl hva hvb (j + 1) (by omega) q hI hQ hX
 refine qp J (qn (kq10 J) (kq2 J) (ecF J (eskip (sqn (er ?_)))))
 have hr:w.ref=true:=by simp_all
 have hxy:=e1 hr
 refine hldo J hQ.h1 J ?_
 refine qp rfl (qp rfl (hlk2 (id:=s0.nx) (m:=mapQ q) rfl rfl rfl hQ.k1 ?_))
 refine pq3 J (qb ?_)
 rintro (_ | _) h6
 refine pq2 J (qn (kq11 J) (kq2 J) (er (hldo J hQ.h2 J ?_)))
 refine qp rfl (qp rfl (hlk2 (id:=s0.nx + 1) (m:=mapQ (swapQ q)) rfl rfl rfl hQ.k2 ?_))
 refine pq5 J (qn (kq13 J) (kq2 J) (eseq (er (pq3 J (qb ?_)))))
 rintro (_ | _) h7
 rotate_left
 refine qp J (zq10 J (zq3 J (qp J (qn (kq11 J) (kq2 J) (ecT J (er (qp J (qn (kq1 J) kn (eret ?_)))))))))
 refine sqr (bqr (sqr ?_))
 exfalso
 rcases hlb with d0 | ⟨d1,d2⟩ | ⟨d1,d2⟩ <;> simp_all
 refine pq2 J (qn (kq11 J) (kq2 J) (er (hldo J hQ.h2 J ?_)))
 refine qp rfl (qp rfl (hlk2 (id:=s0.nx + 1) (m:=mapQ (swapQ q)) rfl rfl rfl hQ.k2 ?_))
 refine pq5 J (qn (kq13 J) (kq2 J) (eseq (er (pq3 J (qb ?_)))))
 rintro (_ | _) h8
 refine qp J (qg J (qp J (qg J (qp J (qg J (qp J (qg J (qp J (qg J (qp J (qg J ?_)))))))))))
 have hb:mapQ q (.int .i64 w.n)=some (I u.n) ∧ mapQ (swapQ q) (.int .i64 u.n)=some (I w.n):=by
  rcases look_both iso hI hxy with ⟨k1,k2⟩ | h
  ·exfalso
   simp_all
  exact h
 rw [hb.1]
 try rw [hb.2]
 refine qp J (qb ?_)
 rintro (_ | _) h9
 refine qg J (qp J (qg J (qp J (qg J (qp J (qg J (qp J (qg J (qp J (qb ?_))))))))))
 rintro (_ | _) h10
 refine qg J (qp J (qg J (pq2 J (qn (kq11 J) (kq2 J) (ecF J (eskip (sqn (er (pq2 J (qn (kq10 J) (kq2 J) (ecF J (eskip (bqn (sqn (ereg (hadd J J (i64w (by omega)) (qp J (qk (kq7 J) kn ?_))))))))))))))))))
 first
 | exact hsame_l s0 G A B' iso hA a b va vb hw hl hva hvb (j + 1) (by omega) _ hI2 hQ2 fun k n' v' q' S' h1 h2 h3=>hX k n' v' q' S' h1 h2 (by simp at h3;omega)
 | exact hsame_l s0 G A B' iso hA a b va vb hw hl hva hvb (j + 1) (by omega) q hI hQ hX
 refine qg J (qp J (qg J (pq2 J (qn (kq11 J) (kq2 J) (ecT J (er (qp J (qn (kq1 J) kn (eret (sqr (bqr (sqr ?_))))))))))))
 exfalso
 rcases hlb with d0 | ⟨d1,d2⟩ | ⟨d1,d2⟩ <;> simp_all
 refine qg J (qp J (zq4 J (qg J (qp J (qg J (pq2 J (qn (kq11 J) (kq2 J) (ecT J (er (qp J (qn (kq1 J) kn (eret (sqr (bqr (sqr ?_)))))))))))))))
 exfalso
 rcases hlb with d0 | ⟨d1,d2⟩ | ⟨d1,d2⟩ <;> simp_all
 refine qp J (zq10 J (zq3 J (qp J (qn (kq11 J) (kq2 J) (ecT J (er (qp J (qn (kq1 J) kn (eret ?_)))))))))
 refine sqr (bqr (sqr ?_))
 exfalso
 rcases hlb with d0 | ⟨d1,d2⟩ | ⟨d1,d2⟩ <;> simp_all
 refine qg J (pq2 J (qn (kq10 J) (kq2 J) (ecT J (er (qp J (qn (kq1 J) kn (eret (sqr (bqr (sqr ?_))))))))))
 exfalso
 rcases hlb with d0 | ⟨d1,d2⟩ | ⟨d1,d2⟩ <;> simp_all
 refine qg J (qp J (qg J (qp J (zq5 J (qg J (pq2 J (qn (kq10 J) (kq2 J) (ecF J (eskip (sqn (eseq (er (pq2 J (qb ?_))))))))))))))
 rintro (_ | _) h11
 refine qp J (qn (kq10 J) (kq2 J) (ecT J (eexit (sqx (bqx (sqn (ereg (hadd J J (i64w (by omega)) (qp J (qk (kq7 J) kn ?_))))))))))
 first
 | exact hsame_l s0 G A B' iso hA a b va vb hw hl hva hvb (j + 1) (by omega) _ hI2 hQ2 fun k n' v' q' S' h1 h2 h3=>hX k n' v' q' S' h1 h2 (by simp at h3;omega)
 | exact hsame_l s0 G A B' iso hA a b va vb hw hl hva hvb (j + 1) (by omega) q hI hQ hX
 refine qp J (qn (kq10 J) (kq2 J) (ecF J (eskip (sqn (er ?_)))))
 have hr:w.ref=true:=by simp_all
 have hxy:=e1 hr
 refine hldo J hQ.h1 J ?_
 refine qp rfl (qp rfl (hlk2 (id:=s0.nx) (m:=mapQ q) rfl rfl rfl hQ.k1 ?_))
 refine pq3 J (qb ?_)
 rintro (_ | _) h12
 refine pq2 J (qn (kq11 J) (kq2 J) (er (hldo J hQ.h2 J ?_)))
 refine qp rfl (qp rfl (hlk2 (id:=s0.nx + 1) (m:=mapQ (swapQ q)) rfl rfl rfl hQ.k2 ?_))
 refine pq5 J (qn (kq13 J) (kq2 J) (eseq (er (pq3 J (qb ?_)))))
 rintro (_ | _) h13
 rotate_left
 refine qp J (zq10 J (zq3 J (qp J (qn (kq11 J) (kq2 J) (ecT J (er (qp J (qn (kq1 J) kn (eret ?_)))))))))
 refine sqr (bqr (sqr ?_))
 exfalso
 rcases hlb with d0 | ⟨d1,d2⟩ | ⟨d1,d2⟩ <;> simp_all
 refine pq2 J (qn (kq11 J) (kq2 J) (er (hldo J hQ.h2 J ?_)))
 refine qp rfl (qp rfl (hlk2 (id:=s0.nx + 1) (m:=mapQ (swapQ q)) rfl rfl rfl hQ.k2 ?_))
 refine pq5 J (qn (kq13 J) (kq2 J) (eseq (er (pq3 J (qb ?_)))))
 rintro (_ | _) h14
 refine qp J (qg J (qp J (qg J (qp J (qg J (qp J (qg J (qp J (qg J (qp J (qg J ?_)))))))))))
 have hb:mapQ q (.int .i64 w.n)=some (I u.n) ∧ mapQ (swapQ q) (.int .i64 u.n)=some (I w.n):=by
  rcases look_both iso hI hxy with ⟨k1,k2⟩ | h
  ·exfalso
   simp_all
  exact h
 rw [hb.1]
 try rw [hb.2]
 refine qp J (qb ?_)
 rintro (_ | _) h15
 refine qg J (qp J (qg J (qp J (qg J (qp J (qg J (qp J (qg J (qp J (qb ?_))))))))))
 rintro (_ | _) h16
 refine qg J (qp J (qg J (pq2 J (qn (kq11 J) (kq2 J) (ecF J (eskip (sqn (er (pq2 J (qn (kq10 J) (kq2 J) (ecF J (eskip (bqn (sqn (ereg (hadd J J (i64w (by omega)) (qp J (qk (kq7 J) kn ?_))))))))))))))))))
 first
 | exact hsame_l s0 G A B' iso hA a b va vb hw hl hva hvb (j + 1) (by omega) _ hI2 hQ2 fun k n' v' q' S' h1 h2 h3=>hX k n' v' q' S' h1 h2 (by simp at h3;omega)
 | exact hsame_l s0 G A B' iso hA a b va vb hw hl hva hvb (j + 1) (by omega) q hI hQ hX
 refine qg J (qp J (qg J (pq2 J (qn (kq11 J) (kq2 J) (ecT J (er (qp J (qn (kq1 J) kn (eret (sqr (bqr (sqr ?_))))))))))))
 exfalso
 rcases hlb with d0 | ⟨d1,d2⟩ | ⟨d1,d2⟩ <;> simp_all
 refine qg J (qp J (zq4 J (qg J (qp J (qg J (pq2 J (qn (kq11 J) (kq2 J) (ecT J (er (qp J (qn (kq1 J) kn (eret (sqr (bqr (sqr ?_)))))))))))))))
 exfalso
 rcases hlb with d0 | ⟨d1,d2⟩ | ⟨d1,d2⟩ <;> simp_all
 refine qp J (zq10 J (zq3 J (qp J (qn (kq11 J) (kq2 J) (ecT J (er (qp J (qn (kq1 J) kn (eret ?_)))))))))
 refine sqr (bqr (sqr ?_))
 exfalso
 rcases hlb with d0 | ⟨d1,d2⟩ | ⟨d1,d2⟩ <;> simp_all
 refine qp J (zq10 J (qp J (qn (kq10 J) (kq2 J) (ecT J (er (qp J (qn (kq1 J) kn (eret (sqr (bqr (sqr ?_)))))))))))
 exfalso
 rcases hlb with d0 | ⟨d1,d2⟩ | ⟨d1,d2⟩ <;> simp_all
 all_goals
  refine qp J (qg J (qp J (qg J (qp J (zq10 J (qg J (pq2 J (qn (kq11 J) (kq2 J) (ecF J (eskip (sqn (eseq ?_))))))))))))
  refine ereg (pq2 J (qn (kq10 J) (kq2 J) (ecT J (er ?_))))
  have hno:mapQ q (.int .i64 w.n)=none ∧ mapQ (swapQ q) (.int .i64 u.n)=none:=by
   rcases look_both iso hI hxy with h | ⟨e1,e2⟩
   ·exact h
   exfalso
   simp_all
  refine hldo J hQ.h1 J ?_
  refine pq2 J (hldoq J J hQ.h2 J ?_)
  refine qp rfl (qp rfl (qp rfl (qp rfl (qp rfl (qp rfl (hmu (id:=s0.nx) (m:=mapQ q) rfl rfl rfl rfl hQ.k1 ?_))))))
  rw [show (I u.n).er=I u.n from rfl,mapQ_add u.n hno.1]
  refine hmu (id:=s0.nx + 1) (m:=mapQ (swapQ q)) rfl rfl rfl rfl ((upd_ne _ _ (by omega)).trans hQ.k2) ?_
  rw [show (I w.n).er=I w.n from rfl,mapQ_add w.n hno.2,← swapQ_app]
  refine qn (kq9 J) (kq2 J) (ereg ?_)
  obtain ⟨o,hO,hcan⟩:=hQ.h3
  refine hldo J ((upd_ne _ _ (by omega)).trans ((upd_ne _ _ (by omega)).trans hO)) J ?_
  refine pq4 J (hbuild J J (lq2 J) (hbsl J J (lq1 J) ?_))
  have hql:=hI.len iso
  refine hapQ (g0:=s0.gn) (r:=(q ++ [(w.n,u.n)]).map encQ) rfl rfl hcan (by simp) (by simp;omega) (by rw [List.map_append];rfl) ?_
  intro v' gl1 hv1 hg1
  refine hstQ J J ((upd_ne _ _ (by omega)).trans ((upd_ne _ _ (by omega)).trans hO)) (by simp) hv1 J ?_
  intro v'' gl2 hg2 hg3
  have hI2:=hI.add hxy hno.1
  have hQ2:=hQ.add w.n u.n gl2 hg2 (fun g hg=>(hg3 g (Nat.lt_of_lt_of_le hg hQ.gn)).trans (hg1 g hg))
  refine qk (kq7 J) kn (bqn (sqn (ereg (hadd J J (i64w (by omega)) (qp J (qk (kq7 J) kn ?_))))))
  first
  | exact hsame_l s0 G A B' iso hA a b va vb hw hl hva hvb (j + 1) (by omega) _ hI2 hQ2 fun k n' v' q' S' h1 h2 h3=>hX k n' v' q' S' h1 h2 (by simp at h3;omega)
  | exact hsame_l s0 G A B' iso hA a b va vb hw hl hva hvb (j + 1) (by omega) q hI hQ hX
termination_by a.length - j
decreasing_by all_goals omega
theorem hsame1_c (s0:Sg) (G:Int → Int → Prop) (A B':List HOb) (iso:Iso G A B') (hA:A.length ≤ 2 ^ 20) (a b:List Word) (va vb:AV) (hw:wrels G a b) (hl:a.length ≤ 2 ^ 40) (hva:RL 2 va (wcs a) s0) (hvb:RL 2 vb (wcs b) s0) (s:Sg) (q:List (Int × Int)) (hI:IQ G q) (hQ:QS s0 q s):HC p N31_ [va,vb,.ptr (s0.nx + 2) 0,.ptr (s0.nx + 3) 0,.ptr (s0.nx + 4) 0] s (fun r s'=>∃ q',r=[B true] ∧ IQ G q' ∧ QS s0 q' s' ∧ q.length ≤ q'.length):=by
 refine hcf J f31_ J ?_
 simp only [chainOf]
 refine er (qp J (qn (kq5 J) kn (eseq (er (qp J (hlenA J (hQ.rl hva).len ?_))))))
 rw [lw]
 refine qp J (hlenA J (hQ.rl hvb).len ?_)
 rw [lw,← hw.1]
 refine qp J (qb ?_)
 rintro (_ | _) h1
 ·refine qn (kq6 J) kn (ecF J (eskip (sqn (eseq (er (qp J (hlenA J (hQ.rl hva).len ?_)))))))
  rw [lw]
  refine qp J (qn (kq7 J) kn (eblock (hsame_l s0 G A B' iso hA a b va vb hw hl hva hvb 0 (by omega) q hI hQ ?_)))
  intro k n' v' q' S' c1 c2 c3
  refine bqx (sqn (er (qp J (qn (kq1 J) kn (eret (fqr J ?_))))))
  exact ⟨_,rfl,c1,c2,c3⟩
 simp at h1
theorem hsame0_l (s0:Sg) (G:Int → Int → Prop) (i k:Nat) (g h:RH) (iso:Iso G g.obs h.obs) (hg:HS i g s0) (hh:HS k h s0) (j:Nat) (q:List (Int × Int)) (hj:j ≤ q.length) (hI:IQ G q) {n:Nat} {v:Nat → Bool} {D:List (Nat × List AV)} {S:Sg} {Q:Ex → Fr → Prop} (hQ:QS s0 q S)
 (hX:∀ kk n' v' q' S',QS s0 q' S' → Q (.exit 0) ⟨upd (upd (upd (upd (upd (upd ((fun _=>none)) 48 (some (.val (B false)))) 14 (some (.val (I kk)))) 13 (some (.val (.fn N31_ [] [.ptr (s0.nx + 2) 0,.ptr (s0.nx + 3) 0,.ptr (s0.nx + 4) 0])))) 12 (some (.val (.ptr (s0.nx + 4) 0)))) 2 (some (.val (.ptr k 0)))) 0 (some (.val (.ptr i 0))),(fun _=>none),n',v',D,S'⟩):EX (callL p) (.loop F16_l1) ⟨upd (upd (upd (upd (upd ((fun _=>none)) 14 (some (.val (I j)))) 13 (some (.val (.fn N31_ [] [.ptr (s0.nx + 2) 0,.ptr (s0.nx + 3) 0,.ptr (s0.nx + 4) 0])))) 12 (some (.val (.ptr (s0.nx + 4) 0)))) 2 (some (.val (.ptr k 0)))) 0 (some (.val (.ptr i 0))),(fun _=>none),n,v,D,S⟩ Q:=by
 refine eloop (eseq (er (qp J ?_)))
 obtain ⟨o,hO,hcan⟩:=hQ.h3
 refine hldo J hO J ?_
 refine pq2 J (qb ?_)
 rintro (_ | _) h1
 ·refine qn (kq6 J) kn (ecF J (eexit (sqx ?_)))
  exact hX _ _ _ _ _ hQ
 refine qn (kq6 J) kn (ecT J (eskip (sqn (eseq (eblock (er ?_))))))
 have hlt:j < q.length:=by simpa using h1
 obtain ⟨⟨x,y⟩,hxy0⟩:=get_of_lt hlt
 have hql:=hI.len iso
 have hg20:=hg.2.n
 have hxy:=hI.1 _ (Lmg hxy0)
 obtain ⟨o1,o2,b1,b2,b3,b4⟩:=iso.ob x y hxy
 refine hldo J hO J ?_
 refine qp J ?_
 refine hia (y:=encQ (x,y)) rfl rfl (by omega) (by rw [Lgm,Int.toNat_natCast,hxy0];rfl) rfl ?_
 refine pq2 J (hldo J hO J ?_)
 refine qp J ?_
 refine hia (y:=encQ (x,y)) rfl rfl (by omega) (by rw [Lgm,Int.toNat_natCast,hxy0];rfl) rfl ?_
 refine pq4 J (qn (kq7 J) kn (er (pq4 J (hcall J J J (htag_c _ i [I g.size] g.obs x o1 (hg.klq hQ.kl).1 hg.2.ad b1) ?_))))
 rintro _ _ ⟨rfl,rfl⟩
 refine pq4 J (hcall J J J (htag_c _ k [I h.size] h.obs y o2 (hh.klq hQ.kl).1 hh.2.ad b2) ?_)
 rintro _ _ ⟨rfl,rfl⟩
 refine qp J (qb ?_)
 rintro (_ | _) h2
 ·refine qp J (qg J (qp J (qg J (qp J (qg J (qp J (qg J (qp J (qg J (qp J (qg J (hcall J J J (hfields_c _ i [I g.size] g.obs x o1 (hg.klq hQ.kl).1 hg.2.ad b1 hg.2.clq) ?_))))))))))))
  rintro _ S0 ⟨u1,rfl,rfl,hu1,_⟩
  refine qg J (qp J (qg J (qp J (qg J (qp J (qg J (qp J (qg J (hcall J J J (hfields_c _ k [I h.size] h.obs y o2 (hh.klq hQ.kl).1 hh.2.ad b2 hh.2.clq) ?_)))))))))
  rintro _ S0 ⟨u2,rfl,rfl,hu2,_⟩
  refine qg J (hcall J J J (hsame1_c s0 G g.obs h.obs iso hg20 o1.fs o2.fs u1.er u2.er b4 (Nat.le_trans (hg.2.f o1 (obAt_mem b1)) (by decide)) (hQ.lr hu1.ere) (hQ.lr hu2.ere) _ q hI hQ) ?_)
  rintro _ S2 ⟨q',rfl,I2,Q2,l2⟩
  refine qb ?_
  rintro (_ | _) h3
  ·refine qg J (pq2 J (qn (kq6 J) kn (ecT J (er (pq2 J (qn (kq2 J) kn (eret (bqr (sqr ?_)))))))))
   exfalso
   simp_all
  refine qg J (pq2 J (qn (kq6 J) kn (ecF J (eskip (bqn (sqn (ereg (qp J ?_))))))))
  have:=hI.len iso
  have:=hg.2.n
  refine hadd J J (i64w (by omega)) (qp J (qk (kq5 J) kn ?_))
  exact hsame0_l s0 G i k g h iso hg hh (j + 1) q' (by omega) I2 Q2 hX
 refine qp J (zq10 J (zq3 J (qp J (qn (kq6 J) kn (ecT J (er (pq2 J (qn (kq2 J) kn ?_))))))))
 refine eret (bqr (sqr ?_))
 exfalso
 simp_all
termination_by g.obs.length - j
decreasing_by all_goals (have:=I2.len iso;have:=hI.len iso;omega)
theorem hsame_c (s:Sg) (G:Int → Int → Prop) (i k:Nat) (g h:RH) (iso:Iso G g.obs h.obs) (hg:HS i g s) (hh:HS k h s) (a b:List Word) (hw:wrels G a b) (hl:a.length ≤ 2 ^ 40):HC p N16_ [.ptr i 0,words a,.ptr k 0,words b] s (fun r s'=>r=[B true,I 0] ∧ KL [] s s'):=by
 obtain ⟨va,vb⟩:=iso.valid hw
 have hlb:=hw.1
 refine hcf J f16_ J ?_
 simp only [chainOf]
 refine er (pq2 J (qn (kq4 J) kn (eseq (er (qp J (hpeq J J J J J (qb ?_)))))))
 rintro (_ | _) h1
 refine qp J (qg J (qp J (qg J (hpeq J J J J J (qb ?_)))))
 rintro (_ | _) h2
 refine qp J (qn (kq5 J) kn (ecF J (eskip (sqn (eseq (er (pq4 J (hcall J J J (hvalid_c _ i [I g.size] g.obs hg.2.ad hg.1 (words a) a hl ⟨wcs_sz _,.inl ⟨_,J⟩⟩) ?_))))))))
 rintro _ s1 ⟨rfl,k1⟩
 have hg:=hg.klq k1
 have hh:=hh.klq k1
 refine qb ?_
 rintro (_ | _) h3
 refine pq2 J (zq6 J (qp J (qn (kq5 J) kn (ecT J (er (pq2 J (qn (kq2 J) kn (eret (sqr (fqr J ?_))))))))))
 rotate_left
 refine pq2 J (qg J (qp J (qg J (qp J (qg J (qp J (qg J (qp J (qg J (hcall J J J (hvalid_c _ k [I h.size] h.obs hh.2.ad hh.1 (words b) b (by omega) ⟨wcs_sz _,.inl ⟨_,J⟩⟩) ?_))))))))))
 rintro _ s2 ⟨rfl,k2⟩
 have hg:=hg.klq k2
 have hh:=hh.klq k2
 refine qb ?_
 rintro (_ | _) h4
 refine qg J (pq2 J (qn (kq5 J) kn (ecT J (er (pq2 J (qn (kq2 J) kn (eret (sqr (fqr J ?_)))))))))
 rotate_left
 refine qg rfl (qp rfl (qp rfl (qk (kc rfl (kc rfl (kc rfl (kc rfl (kc rfl kn))))) kn (sqn (ecF rfl (eskip (sqn (eseq (ereg (hmkm (hmkm (hall (hall (hsto (cs':=[.map s2.nx]) rfl rfl (qs_b1 _ _ _ _ _) rfl (Nlb rfl) (by simp) rfl (hsto (cs':=[.map (s2.nx + 1)]) rfl rfl (qs_b2 _ _ _ _ _ _) rfl (Nlb rfl) (by simp) rfl (qk (kc rfl (kc rfl (kc rfl (kc rfl (kc rfl (kc rfl kn)))))) kn (sqn (eseq (ereg (hall (qk (kc rfl (kc rfl (kc rfl (kc rfl (kc rfl (kc rfl (kc rfl kn))))))) kn (sqn (eseq ?_)))))))))))))))))))))))
 refine ereg (pq2 J (qn (kq6 J) kn (eseq (er (pq3 J (hcall J J J (hsame1_c s2 G g.obs h.obs iso hg.2.n a b (words a) (words b) hw hl ⟨wcs_sz _,.inl ⟨_,J⟩⟩ ⟨wcs_sz _,.inl ⟨_,J⟩⟩ _ [] ⟨fun _ h=>(by cases h),List.nodup_nil⟩ (qs_init s2)) ?_))))))
 rintro _ S2 ⟨q',rfl,I2,Q2,l2⟩
 refine qb ?_
 rintro (_ | _) h5
 refine qp J (qn (kq5 J) kn (ecT J (er (pq2 J (qn (kq2 J) kn (eret (sqr (fqr J ?_))))))))
 rotate_left
 refine qp J (qn (kq5 J) kn (ecF J (eskip (sqn (eseq (er (qp J (qn (kq5 J) kn (eblock (hsame0_l s2 G i k g h iso hg hh 0 q' (Nat.zero_le _) I2 Q2 ?_))))))))))
 intro j n' v' q2 S3 Q3
 refine bqx (sqn (er (pq2 J (qn (kq2 J) kn (eret (fqr J ?_))))))
 rotate_left
 simp at h2
 simp at h1
 all_goals
  first
  | exact ⟨rfl,(k1.trans0 k2).trans0 Q3.kl⟩
  | (exfalso;simp_all)
end Go.Sim.W
namespace Go.Sim.W
open Go Go.Sim
theorem unfl_w (l:List Word):unfl 2 l.length (flat (wcs l))=wcs l:=by
 induction l with
 | nil=>rfl
 | cons w l ih =>
   have e:flat (wcs (w :: l))=[B w.ref,I w.n] ++ flat (wcs l):=rfl
   rw [e,List.length_cons]
   show AV.agg _ :: unfl 2 l.length (flat (wcs l))=_
   rw [ih]
   rfl
theorem nts_w (l:List Word):AV.nts (flat (wcs l))=true:=by
 induction l with
 | nil=>rfl
 | cons w l ih =>
   have e:flat (wcs (w :: l))=B w.ref :: I w.n :: flat (wcs l):=rfl
   rw [e]
   simp only [AV.nts,ih,Bool.and_true]
   rfl
theorem upd2 {α:Type} (f:Nat → Option α) (g:Nat) (a b:Option α):upd (upd f g a) g b=upd f g b:=by
 funext j
 by_cases h:j=g
 ·subst h;rw [upd_same,upd_same]
 rw [upd_ne _ _ h,upd_ne _ _ h,upd_ne _ _ h]
theorem frz_w {S:Sg} {v:AV} {ws:List Word} (h:LM v ws S):∃ o m,frzC S v=some (.slice o 2 (wcs ws),{ S with mu:=m }) ∧ frzD 1 S v=some (.slice o 2 (wcs ws),{ S with mu:=m }) ∧ ∀ g,g ∉ tk v → m g=S.mu g:=by
 rcases h with ⟨rfl,o,rfl⟩ | ⟨g,rfl,h1,h2⟩
 ·exact ⟨o,S.mu,rfl,rfl,fun _ _=>rfl⟩
 have hl:(flat (wcs ws)).length=ws.length * 2:=by rw [flat_len (wcs_sz _),lw]
 have e:∀ S:Sg,S.mu g=some (flat (wcs ws)) → frzOf 2 S (.ms g 0 ws.length 2)=some (.slice .none 2 (wcs ws),{ S with mu:=upd S.mu g none }):=by
  intro S h1
  simp only [frzOf,h1,Obs,true_and]
  rw [if_pos (by decide),if_pos (by omega),List.drop_zero,List.take_of_length_le (by omega),unfl_w]
 refine ⟨.none,upd S.mu g none,e S h1,?_,fun g' hg=>upd_ne _ _ (by simpa [tk] using hg)⟩
 rw [frzD]
 simp only [h1,Obs,frzDL0']
 rw [if_pos ⟨trivial,nts_w ws⟩,e _ (upd_same _ _ _),upd2]
theorem KL.frz {s S:Sg} {X:List Nat} {v:AV} {m:Nat → Option (List AV)} (h:KL X s S) (hv:∀ g ∈ tk v,g ∈ X ∨ s.mn ≤ g) (hm:∀ g,g ∉ tk v → m g=S.mu g):KL X s { S with mu:=m } :=
 ⟨⟨h.e.nx,h.e.ob,h.e.gn,h.e.gl,h.e.Q⟩,h.mn,fun g hg hx=>(hm g fun ht=>(hv g ht).elim hx fun h'=>by omega).trans (h.mu g hg hx)⟩
theorem eretz_env {c:Caller} {E:Nat → Option TV} {L:Nat → Option (List AV)} {n:Nat} {v:Nat → Bool} {D:List (Nat × List AV)} {S S':Sg} {Q:Ex → Fr → Prop} {k d:Nat} {x y:AV} (h0:L d=none) (h1:E d=some (.val x)) (h2:frzD k S x=some (y,S'))
 (h:Q .ret ⟨upd E d (some (.val y)),L,n,v,D,S'⟩):EX c (.retz k d) ⟨E,L,n,v,D,S⟩ Q:=eretz (by simp only [retzF,h0,h1,h2];rfl) h
theorem LM.c1 {v:AV} {ws:List Word} {S:Sg} (h:LM v ws S):v.cells=[v]:=by
 rcases h with ⟨_,o,rfl⟩ | ⟨g,rfl,_⟩ <;> rfl
theorem QOK.kl {s s':Sg} (h:QOK s) (k:KL [] s s'):QOK s':=by
 unfold QOK at h ⊢
 rw [k.e.Q]
 exact h
theorem same_refl (a:Run):sameR a a=true:=by simp [sameR]
def LI (v:AV) (l:List Int) (S:Sg):Prop:=(l=[] ∧ ∃ o,v=.slice o 1 []) ∨ ∃ g,v=.ms g 0 l.length 1 ∧ S.mu g=some (l.map I) ∧ g < S.mn
theorem WL.li {v:AV} {l:List Int} {S:Sg} (h:WE 1 v (l.map I) S):LI v l S:=by
 rcases h.2 with ⟨h0,rfl⟩ | ⟨g,rfl,h1,h2⟩
 ·exact .inl ⟨List.length_eq_zero_iff.1 (by simpa using h0),_,rfl⟩
 rw [flat_I] at h1
 exact .inr ⟨g,by rw [List.length_map],h1,h2⟩
theorem LI.ere {v:AV} {l:List Int} {S:Sg} (h:LI v l S):LI v.er l S:=by
 rcases h with ⟨h,o,rfl⟩ | ⟨g,rfl,h⟩
 ·exact .inl ⟨h,_,rfl⟩
 exact .inr ⟨g,rfl,h⟩
theorem clone_n {s:Sg} {v:AV} {l:List Int} (h:LI v l s) (hl:l.length ≤ 2 ^ 40):HC p N28_ [v] s (fun r s'=>∃ v',r=[v'] ∧ WE 1 v' (l.map I) s' ∧ MX [] s s' ∧ ∀ g ∈ tk v',s.mn ≤ g):=by
 have e:p.ov N28_=some (cloneOv 1 8):=rfl
 rcases h with ⟨rfl,o,rfl⟩ | ⟨g,rfl,h1,h2⟩
 ·exact callOv e (r:=[.slice .full 1 []]) (s':=s) (by simp only [cloneOv,if_true]) ⟨_,rfl,⟨rfl,.inl ⟨rfl,rfl⟩⟩,MX.refl _ _,fun g hg=>by cases hg⟩
 by_cases hz:l.length=0
 ·obtain rfl:=List.length_eq_zero_iff.1 hz
  exact callOv e (r:=[.slice .full 1 []]) (s':=s) (by simp only [cloneOv];rfl) ⟨_,rfl,⟨rfl,.inl ⟨rfl,rfl⟩⟩,MX.refl _ _,fun g hg=>by cases hg⟩
 refine callOv e (r:=[.ms s.mn 0 l.length 1]) (s':={ s with mu:=upd s.mu s.mn (some (l.map I)),mn:=s.mn + 1 }) ?_ ⟨_,rfl,⟨by rw [flat_I,List.length_map,Nat.mul_one],.inr ⟨s.mn,by rw [List.length_map],?_,Nat.lt_succ_self _⟩⟩,⟨rfl,rfl,rfl,rfl,rfl,Nat.le_succ _,fun g hg _=>upd_ne _ _ (by omega)⟩,fun g hg=>by rw [List.mem_singleton.1 hg];exact Nat.le_refl _⟩
 ·simp only [cloneOv,if_true,if_neg hz,h1,Obs]
  rw [if_pos ⟨by simp,by omega⟩,List.drop_zero,List.take_of_length_le (by simp)]
 show upd s.mu s.mn _ s.mn=_
 rw [upd_same,flat_I]
theorem MP.ere {v:AV} {ws:List Word} {S:Sg} (h:MP v ws S):MP v.er ws S:=by
 rcases h with ⟨h,o,rfl⟩ | ⟨g,off,cs,rfl,h⟩
 ·exact .inl ⟨h,_,rfl⟩
 exact .inr ⟨g,off,cs,rfl,h⟩
theorem nds {a b c:AV} {n1 n2:Nat} (h:n1 ≤ n2) (ha:∀ g ∈ tk a,g < n1) (hb:∀ g ∈ tk b,n1 ≤ g ∧ g < n2) (hc:∀ g ∈ tk c,n2 ≤ g):(tks [a,b,c]).Nodup:=by
 have e:tks [a,b,c]=tk a ++ (tk b ++ tk c):=by simp [tks]
 rw [e]
 refine List.nodup_append.2 ⟨tk_nd a,List.nodup_append.2 ⟨tk_nd b,tk_nd c,fun x hx y hy h=>?_⟩,fun x hx y hy h=>?_⟩
 ·have:=hb x hx
  have:=hc y hy
  omega
 have h1:=ha x hx
 rcases List.mem_append.1 hy with hy | hy
 ·have:=hb y hy;omega
 have:=hc y hy;omega
def trimN (l:List Word):Nat → Nat
 | 0=>0
 | k + 1=>if l[k]?=some w0 then trimN l k else k + 1
def trimR (l:List Word):List Word:=l.take (trimN l l.length)
theorem trimN_le (l:List Word) (k:Nat):trimN l k ≤ k:=by
 induction k with
 | zero=>exact Nat.le_refl _
 | succ k ih =>
   unfold trimN
   split
   ·omega
   exact Nat.le_refl _
theorem aeqW (w u:Word):aeqOf [.b,.i] (.agg [B w.ref,I w.n]) (.agg [B u.ref,I u.n])=some (decide (w=u)):=by
 obtain ⟨a,b⟩:=w
 obtain ⟨c,d⟩:=u
 simp only [aeqOf,ceqs,ceq,B,I,if_true,Obs,Word.mk.injEq,Bool.and_true]
 congr 1
 by_cases h:a=c <;> by_cases h2:b=d <;> simp [h,h2]
theorem haeqW {c:Caller} {l:List AIns} {E:Nat → Option TV} {L:Nat → Option (List AV)} {n:Nat} {v:Nat → Bool} {D:List (Nat × List AV)} {S:Sg} {Q:Fr → Prop} {d:Nat} {ng:Bool} {x y:AO} (w u:Word) (h1:evV E x=some (.agg [B w.ref,I w.n])) (h2:evV E y=some (.agg [B u.ref,I u.n]))
 (k:HL c l ⟨upd E d (some (.val (B (if ng then !(decide (w=u)) else decide (w=u))))),L,n,v,D,S⟩ Q):HL c (⟨some d,none,.aeq ng [.b,.i] x y⟩ :: l) ⟨E,L,n,v,D,S⟩ Q :=
 hop (by simp only [ins,run1,aop,h1,h2,Obs,aeqW];rfl) k
theorem hslT {c0:Caller} {l:List AIns} {d:Nat} {x:AO} {S:Sg} {vc:AV} {c:List Word} {E:Nat → Option TV} {L:Nat → Option (List AV)} {n:Nat} {v:Nat → Bool} {D:List (Nat × List AV)} {Q:Fr → Prop} {hi:AO} {b:Nat} (hc:WE 2 vc (wcs c) S) (hb:b ≤ c.length)
 (h0:evV E x=some vc) (b2:∀ d,boundOf E (some hi) d=some b) (k:∀ r,MP r (c.take b) S → HL c0 l ⟨upd E d (some (.val r)),L,n,v,D,S⟩ Q) :
 HL c0 (⟨some d,none,.sl 2 x none (some hi) none⟩ :: l) ⟨E,L,n,v,D,S⟩ Q:=by
 have hlen:=hc.1
 rw [lw] at hlen
 have eb:∀ q,boundOf E none q=some q:=fun _=>rfl
 rcases hc.2 with ⟨h0',rfl⟩ | ⟨g,rfl,h1,h2⟩
 ·have hz:c=[]:=List.length_eq_zero_iff.1 (by simpa [wcs] using h0')
  subst hz
  obtain rfl:b=0:=by simpa using hb
  refine hslR h0 (r:=.slice .none 2 []) ?_ (k _ (.inl ⟨rfl,_,rfl⟩))
  simp only [slOf,eb,b2,Obs]
  rfl
 refine hslR h0 (r:=.ms g 0 b 2) ?_ (k _ (.inr ⟨g,0,_,?_,h1,h2,?_,?_⟩))
 ·simp only [slOf,eb,b2,Obs]
  rw [if_neg (by simp),if_pos ⟨by omega,by omega,by rw [lw];omega⟩,if_pos (by simp)]
  simp
 ·rw [List.length_take,Nat.min_eq_left hb]
 ·rw [List.length_take,Nat.min_eq_left hb]
  omega
 rw [List.drop_zero,List.length_take,Nat.min_eq_left hb,flat_take (wcs_sz c),wcs,← List.map_take]
 rfl
def VM.nowR (m:VM):Run:=⟨if m.over=true then m.fin else 1,m.val,m.outs,m.steps⟩
theorem HInv.cl {h:RH} (k:HInv h):(cellsF h.obs).length ≤ 2 ^ 40:=Nat.le_trans k.le (by decide)
theorem orderF_len (obs:List HOb):(orderF obs).length=obs.length:=List.length_map ..
theorem hfork_c (s:Sg) (i:Nat) (h:RH) (hP:HS i h s):HC p N34_ [.ptr i 0] s (fun r s'=>∃ i',r=[.ptr i' 0] ∧ HS i' h s' ∧ s.nx ≤ i' ∧ KL [] s s' ∧ ∀ g,own [i'] s' g → s.mn ≤ g):=by
 obtain ⟨vc,vs,vo,g1,g2,g3,g4,g5,g6⟩:=hP.1
 have hn:=hP.2.n
 have hcl:=hP.2.cl
 have hol:=orderF_len h.obs
 have hsl:=cells_len h.obs
 refine hcf J f34_ J ?_
 simp only [chainOf]
 refine er (qp J (qn (kq1 J) kn (eseq (er (qp J (hpeq J J J J J (qb ?_)))))))
 rintro (_ | _) h1
 ·refine qn (kq2 J) kn (ecF J (eskip (sqn (er (pq3 J (hldoF J J g1 J ?_))))))
  refine pq4 J (hldo J g1 J ?_)
  refine hcallk J J J (clone_w g3.lm.mp.ere hcl) ?_ ?_
  ·rintro _ S1 ⟨v1,rfl,a1,a2,a3⟩
   exact ⟨.inl ⟨i,0,_,rfl,g1,(congrFun a2.ob i).trans g1⟩,a2.Q⟩
  rintro _ S1 ⟨v1,rfl,a1,a2,a3⟩
  have g1:=(congrFun a2.ob i).trans g1
  have g4:=g4.mx a2 (by simp)
  have g5:=g5.mx a2 (by simp)
  refine pq4 J (hldoF J J g1 J ?_)
  refine hcallk J J J (clone_n g4.li.ere (by omega)) ?_ ?_
  ·rintro _ S2 ⟨v2,rfl,b1,b2,b3⟩
   exact ⟨.inl ⟨i,0,_,rfl,g1,(congrFun b2.ob i).trans g1⟩,b2.Q⟩
  rintro _ S2 ⟨v2,rfl,b1,b2,b3⟩
  have g1:=(congrFun b2.ob i).trans g1
  have g5:=g5.mx b2 (by simp)
  have a0:=a1
  have a1:=a1.mx b2 (by simp)
  refine pq4 J (hldoF J J g1 J ?_)
  refine hcallk J J J (clone_n g5.li.ere (by omega)) ?_ ?_
  ·rintro _ S3 ⟨v3,rfl,c1,c2,c3⟩
   exact ⟨.inl ⟨i,0,_,rfl,g1,(congrFun c2.ob i).trans g1⟩,c2.Q⟩
  rintro _ S3 ⟨v3,rfl,c1,c2,c3⟩
  have a5:=a1.mx c2 (by simp)
  have b5:=b1.mx c2 (by simp)
  refine hbuild (cs:=[v1,v2,v3]) rfl (by simp [fillA,a1.c1,b1.c1,c1.c1]) rfl (hbuild (cs:=[I h.size,v1,v2,v3]) rfl (by simp [fillA,AV.cells,I,a1.c1,b1.c1,c1.c1]) rfl (hboxo (cs:=[I h.size,v1,v2,v3]) rfl (by simp [AV.cells,AV.erTs,a1.erT,b1.erT,c1.erT,I,AV.erT]) (qp rfl (qk (kc rfl kn) kn (sqn (eret (fqr rfl ?_)))))))
  have kk:KL [] s S3:=(a2.kl.trans0 b2.kl).trans0 c2.kl
  have hb:(S3.new (.row [I h.size,v1,v2,v3])).ob S3.nx=some (.row ([I h.size] ++ [v1,v2,v3])):=upd_same _ _ _
  have m1:=a2.mn
  have m2:=b2.mn
  have m3:=c2.mn
  refine ⟨S3.nx,rfl,⟨⟨v1,v2,v3,hb,Nat.lt_succ_self _,a5.mono (fun _ _=>rfl) (Nat.le_refl _),b5.mono (fun _ _=>rfl) (Nat.le_refl _),c1.mono (fun _ _=>rfl) (Nat.le_refl _),nds (n1:=S1.mn) (n2:=S2.mn) b2.mn (fun g hg=>a0.lt g hg) (fun g hg=>⟨b3 g hg,b1.lt g hg⟩) c3⟩,hP.2⟩,kk.e.nx,kk.trans0 (KL.new _ _),fun g hg=>?_⟩
  have hg:=(own_row hb).1 hg
  rw [tks_app] at hg
  rcases List.mem_append.1 hg with hg | hg
  ·simp [tks,tk,I] at hg
  simp only [tks,List.flatMap_cons,List.flatMap_nil,List.append_nil,List.mem_append] at hg
  rcases hg with hg | hg | hg
  ·exact a3 g hg
  ·have:=b3 g hg;omega
  have:=c3 g hg;omega
 simp at h1
theorem mheap_c (s:Sg) (im ih:Nat) (m:VM) (hM:MS im ih m s):HC p N17_ [.ptr im 0] s (fun r s'=>∃ i',r=[.ptr i' 0] ∧ HS i' m.h s' ∧ KL [] s s'):=by
 obtain ⟨vr,vo,h1m,h2m,h3m,h4m,h5m⟩:=hM.row
 refine hcf J f17_ J ?_
 simp only [chainOf]
 refine er (qp J (qn (kq1 J) kn (eseq (er (qp J (hpeq J J J J J (qb ?_)))))))
 rintro (_ | _) h1
 ·refine qn (kq2 J) kn (ecF J (eskip (sqn (er (pq3 J (hldo J h1m J ?_))))))
  refine hcall J J J (hfork_c _ ih m.h hM.hp) ?_
  rintro _ S1 ⟨i',rfl,w1,_,w2,_⟩
  refine qp J (qn (kq1 J) kn (eret (fqr J ?_)))
  exact ⟨i',rfl,w1,w2⟩
 simp at h1
theorem mgc_c (s:Sg) (im ih:Nat) (m:VM) (hM:MS im ih m s) (hl:m.regs.length ≤ 2 ^ 30) (hv:validW m.h.obs m.regs=true):HC p N12_ [.ptr im 0] s (fun r s'=>r=[I 0] ∧ MS im ih m.gc s' ∧ KX [im,ih] s s'):=by
 refine hcf J f12_ J ?_
 simp only [chainOf]
 refine er (qp J (qn (kq1 J) kn (eseq (er (qp J (hpeq J J J J J (qb ?_)))))))
 rintro (_ | _) h1
 ·refine qn (kq2 J) kn (ecF J (eskip (sqn (er (qp J (hcall J J J (mcollect_c _ im ih m hM hl hv) ?_))))))
  rintro _ S1 ⟨rfl,w1,w2⟩
  refine qn kn kn (er (qp J (qn (kq1 J) kn (eret (fqr J ?_)))))
  exact ⟨rfl,w1,w2⟩
 simp at h1
theorem mrun_c (s:Sg) (im ih:Nat) (m:VM) (hM:MS im ih m s) (ho:m.outs.length ≤ 2 ^ 40):HC p N14_ [.ptr im 0] s (fun r s'=>r=[.agg m.nowR.cs,B m.over] ∧ KL [] s s'):=by
 obtain ⟨vr,vo,h1m,h2m,h3m,h4m,h5m⟩:=hM.row
 refine hcf J f14_ J ?_
 simp only [chainOf]
 refine er (hal (dc dn J) (qp J (qn (kq2 J) (kq1 J) (eseq (er (qp J (hpeq J J J J J (qb ?_))))))))
 rintro (_ | _) h1
 refine qk (kc rfl (kc rfl (kc rfl kn))) (kc rfl kn) (sqn (ecF rfl (eskip (sqn (eseq (ereg (qp rfl (qp rfl (qp rfl (hldo (y:=.agg [I m.fin,I m.val,vo,I m.steps]) rfl h1m rfl ?_))))))))))
 refine hal (dc (dc (dc (dc (dc (dc (dc dn rfl) rfl) rfl) rfl) rfl) rfl) rfl) (hstl (cs':=[I m.fin,I m.val,vo,I m.steps]) rfl rfl rfl rfl (Nlb rfl) rfl (qk (kc rfl (kc rfl (kc rfl kn))) (kc rfl (kc rfl kn)) (sqn (eseq (ereg (qp rfl (qp rfl (hcall rfl rfl rfl (clone_n h3m.li.ere ho) ?_))))))))
 rintro _ S1 ⟨v1,rfl,w1,w2,w3⟩
 have h1m:=(congrFun w2.ob im).trans h1m
 refine qp rfl (hstl (cs':=[I m.fin,I m.val,v1,I m.steps]) rfl rfl rfl (by rw [w1.c1];rfl) (by rw [w1.c1];exact Nlb rfl) (by rw [w1.c1];rfl) (qk (kc rfl (kc rfl (kc rfl kn))) (kc rfl (kc rfl kn)) (sqn (eseq (eseq (ereg (qp rfl (qp rfl (qp rfl (hldo rfl h1m rfl ?_))))))))))
 refine qb ?_
 rintro (_ | _) h2
 refine qp J (qn (kq4 J) (kq2 J) (ecT J (ereg (qp J (hstl J J J J (Nlb J) (lq4 J) (qn (kq3 J) (kq2 J) (er (hlda J J (lq4 J) (pq3 J (hldoF J J h1m J ?_))))))))))
 rotate_left
 refine qp J (qn (kq4 J) (kq2 J) (ecF J (eskip (sqn (er (hlda J J (lq4 J) (pq3 J (hldoF J J h1m J ?_))))))))
 rotate_left
 simp at h1
 all_goals
  refine hstl J J J J (Nlb J) (lq4 J) (qp J (qn (kq2 J) (kq1 J) ?_))
  first
  | (obtain ⟨o,mu1,f1,f2⟩:=frz_run (a:=1) (b:=m.val) (c:=m.steps) w1
     refine eretz_loc rfl f1 ?_)
  | (obtain ⟨o,mu1,f1,f2⟩:=frz_run (a:=m.fin) (b:=m.val) (c:=m.steps) w1
     refine eretz_loc rfl f1 ?_)
  refine fqr J ?_
  refine ⟨?_,w2.kl.frz (fun g hg=>.inr (w3 g hg)) f2⟩
  have e:m.nowR=⟨if m.over=true then m.fin else 1,m.val,m.outs,m.steps⟩:=rfl
  rw [e]
  first
  | (rw [if_pos (by simpa using h2)];rfl)
  | (rw [if_neg (by simpa using h2)];rfl)
theorem mregs_l (im ih:Nat) (m:VM) (k:Nat) (hk:k ≤ m.regs.length) (hr:m.regs.length ≤ 1024) {n:Nat} {v:Nat → Bool} {D:List (Nat × List AV)} {S:Sg} {Q:Ex → Fr → Prop} (hM:MS im ih m S)
 (hX:Q (.exit 0) ⟨upd (upd (upd ((fun _=>none)) 24 (some (.val (B false)))) 3 (some (.val (I (trimN m.regs k))))) 0 (some (.val (.ptr im 0))),(fun _=>none),n,v,D,S⟩):EX (callL p) (.loop F15_l1) ⟨upd (upd ((fun _=>none)) 3 (some (.val (I k)))) 0 (some (.val (.ptr im 0))),(fun _=>none),n,v,D,S⟩ Q:=by
 refine eloop (eseq (er (pq2 J (qb ?_))))
 rintro (_ | _) h1
 refine qp J (zq10 J (qp J (qn (kq3 J) kn (ecF J (eexit (sqx ?_))))))
 rotate_left
 refine qp J (qg J (qp J (qg J (qp J (qg J (qp J (qg J ?_)))))))
 obtain ⟨vr,vo,h1m,h2m,h3m,h4m,h5m⟩:=hM.row
 refine hldo J h1m J ?_
 refine qg J (qp J (qg J ?_))
 have hkp:(0:Int) < k:=by simpa using h1
 refine hsub J J (i64w (by omega)) (qg J ?_)
 obtain ⟨w,hw0⟩:=get_of_lt (l:=m.regs) (i:=((k:Int)).toNat - 1) (by omega)
 obtain ⟨q,q1,q2⟩:=(h2m.rl (wcs_sz _)).at_ (j:=(k:Int) - 1) (y:=w.enc) (by omega) (by rw [wcs,Lgm,show ((k:Int) - 1).toNat=((k:Int)).toNat - 1 from by omega,hw0];rfl)
 refine hiaR rfl rfl q1 (qg rfl (hldR (y:=.agg [B w.ref,I w.n]) rfl q2 rfl (qg rfl (hbuild rfl rfl (lc rfl (lc rfl (ln rfl))) (qg rfl (haeqW w w0 rfl rfl (qb ?_)))))))
 rintro (_ | _) h2
 refine qp J (qn (kq3 J) kn (ecF J (eexit (sqx ?_))))
 rotate_left
 refine qp J (qn (kq3 J) kn (ecT J (eskip (sqn (eblock (ereg (qp J ?_)))))))
 have hkp:(0:Int) < k:=by simpa using h1
 refine hsub rfl rfl (r:=((k - 1:Nat):Int)) ((i64w (by omega)).trans (by omega)) (qp rfl (qk (kc rfl (kc rfl kn)) kn (bqn ?_)))
 obtain ⟨k,rfl⟩:∃ k',k=k' + 1:=⟨k - 1,by omega⟩
 have he:trimN m.regs (k + 1)=trimN m.regs k:=by
  have hw:w=w0:=by simpa using h2
  rw [trimN,if_pos (by rw [show k=((k + 1:Nat):Int).toNat - 1 from by omega,← hw];exact hw0)]
 rw [he] at hX
 exact mregs_l im ih m k (by omega) hr hM hX
 all_goals
  first
  | (have hz:k=0:=by
      have:decide ((0:Int) < (k:Int))=false:=by assumption
      simp at this
      omega
     subst hz
     exact hX)
  | (obtain ⟨k,rfl⟩:∃ k',k=k' + 1:=⟨k - 1,by omega⟩
     have he:trimN m.regs (k + 1)=k + 1:=by
      have hw:¬ w=w0:=by simpa using h2
      rw [trimN,if_neg fun h=>hw (by rw [show ((k + 1:Nat):Int).toNat - 1=k from by omega,h] at hw0;exact (Option.some.inj hw0).symm)]
     rw [he] at hX
     exact hX)
termination_by k
decreasing_by all_goals omega
theorem mregs_c (s:Sg) (im ih:Nat) (m:VM) (hM:MS im ih m s) (hr:m.regs.length ≤ 1024):HC p N15_ [.ptr im 0] s (fun r s'=>r=[words (trimR m.regs)] ∧ KL [] s s'):=by
 obtain ⟨vr,vo,h1m,h2m,h3m,h4m,h5m⟩:=hM.row
 refine hcf J f15_ J ?_
 simp only [chainOf]
 refine er (qp J (qn (kq1 J) kn (eseq (er (qp J (hpeq J J J J J (qb ?_)))))))
 rintro (_ | _) h1
 ·refine qn (kq2 J) kn (ecF J (eskip (sqn (er (pq3 J (hldo J h1m J ?_))))))
  refine hlenA J h2m.len ?_
  rw [lw]
  refine qp J (qn (kq2 J) kn (eseq (eblock (mregs_l im ih m m.regs.length (Nat.le_refl _) hr hM ?_))))
  refine bqx (sqn (er (pq3 J (hldo J h1m J ?_))))
  refine qp rfl (hslT (b:=trimN m.regs m.regs.length) h2m (trimN_le _ _) rfl (fun d=>bI rfl (by omega) (by omega)) ?_)
  intro u hu
  refine hcall rfl rfl rfl (clone_w hu.ere (by rw [List.length_take];omega)) ?_
  rintro _ S1 ⟨v1,rfl,w1,w2,w3⟩
  refine qp J (qn (kq1 J) kn ?_)
  obtain ⟨o,mu1,_,f1,f2⟩:=frz_w w1.lm
  refine eretz_env J J f1 (fqr J ?_)
  exact ⟨rfl,w2.kl.frz (fun g hg=>.inr (w3 g hg)) f2⟩
 simp at h1
theorem MInv.gc {m:VM} (h:MInv m):MInv m.gc:=by
 obtain ⟨h1,h2,h3,h4⟩:=collect_inv h.hi h.v
 exact ⟨h.ok,h1,h2,by show (collectP m.h m.regs).2.length ≤ _;rw [h3];exact h.rl,h.at0,h.st,h.nw,h.ol⟩
theorem MInv.ol40 {m:VM} (h:MInv m):m.outs.length ≤ 2 ^ 40:=h.ri.ol
theorem MInv.r30 {m:VM} (h:MInv m):m.regs.length ≤ 2 ^ 30:=Nat.le_trans h.rl (by decide)
theorem MS.own_lt {im ih:Nat} {m:VM} {S:Sg} (h:MS im ih m S) {g:Nat} (ho:own [im,ih] S g):g < S.mn:=by
 obtain ⟨vr,vo,h1,h2,h3,_⟩:=h.row
 rcases own_two.1 ho with ho | ho
 ·rcases List.mem_append.1 ((own_im h1).1 ho) with hg | hg
  ·exact h2.lt g hg
  exact h3.lt g hg
 exact W.own_lt h.hp.1 rfl ho
theorem MS.kx {im ih a b:Nat} {m:VM} {S S':Sg} (h:MS a b m S) (k:KX [im,ih] S S') (ha:a ∉ [im,ih]) (hb:b ∉ [im,ih]) (hd:∀ g,own [a,b] S g → ¬ own [im,ih] S g):MS a b m S' ∧ ∀ g,own [a,b] S' g → ¬ own [im,ih] S' g:=by
 have hlt:=h.lth
 have ea:S'.ob a=S.ob a:=k.ob a (hlt a (by simp)) ha
 have eb:S'.ob b=S.ob b:=k.ob b (hlt b (by simp)) hb
 have eo:∀ g,own [a,b] S' g → own [a,b] S g:=fun g ho=>by
  rcases own_two.1 ho with ⟨i,hi,row,r1,r2⟩ | ⟨i,hi,row,r1,r2⟩
  ·obtain rfl:=List.mem_singleton.1 hi
   exact own_two.2 (.inl ⟨i,hi,row,ea ▸ r1,r2⟩)
  obtain rfl:=List.mem_singleton.1 hi
  exact own_two.2 (.inr ⟨i,hi,row,eb ▸ r1,r2⟩)
 have em:∀ g,own [a,b] S g → S'.mu g=S.mu g:=fun g ho=>k.mu g (h.own_lt ho) (hd g ho)
 obtain ⟨vr,vo,h1,h2,h3,h4,h5⟩:=h.row
 obtain ⟨vc,vs,vp,g1,g2,g3,g4,g5,g6⟩:=h.hp.1
 have oa:∀ g ∈ tk vr ++ tk vo,own [a,b] S g:=fun g hg=>own_two.2 (.inl ((own_im h1).2 hg))
 have ob:∀ g ∈ tks [vc,vs,vp],own [a,b] S g:=fun g hg=>own_two.2 (.inr ((own_row g1).2 (by rw [tks_app];exact List.mem_append_right _ hg)))
 refine ⟨⟨h.ne,Nat.lt_of_lt_of_le h.lt k.nx,⟨⟨vc,vs,vp,eb.trans g1,Nat.lt_of_lt_of_le g2 k.nx,g3.mono (fun g hg=>em g (ob g (by simp [tks,hg]))) k.mn,g4.mono (fun g hg=>em g (ob g (by simp [tks,hg]))) k.mn,g5.mono (fun g hg=>em g (ob g (by simp [tks,hg]))) k.mn,g6⟩,h.hp.2⟩,vr,vo,ea.trans h1,h2.mono (fun g hg=>em g (oa g (by simp [hg]))) k.mn,h3.mono (fun g hg=>em g (oa g (by simp [hg]))) k.mn,h4,fun g hg ho=>h5 g hg ?_⟩,fun g ho ho'=>?_⟩
 ·obtain ⟨i,hi,row,r1,r2⟩:=ho
  obtain rfl:=List.mem_singleton.1 hi
  exact ⟨i,hi,row,eb ▸ r1,r2⟩
 have h':=eo g ho
 rcases k.own g ho' with h2 | h2
 ·exact hd g h' h2
 have:=h.own_lt h'
 omega
theorem fr_apart {im ih a b:Nat} {m m':VM} {s S:Sg} (h:MS im ih m s) (f:FR s a b S):a ∉ [im,ih] ∧ b ∉ [im,ih] ∧ ∀ g,own [a,b] S g → ¬ own [im,ih] S g:=by
 have h1:=h.lt
 have h2:=h.hp.1.lt
 have h3:=f.nim
 have h4:=f.nih
 refine ⟨by simp;omega,by simp;omega,fun g ho ho'=>?_⟩
 have h5:=f.own g ho
 have:own [im,ih] s g:=by
  rcases own_two.1 ho' with h' | h'
  ·exact own_two.2 (.inl (f.kl.own h1 h'))
  exact own_two.2 (.inr (f.kl.own h2 h'))
 have:=h.own_lt this
 omega
theorem MS.ownk {a b:Nat} {m:VM} {s S:Sg} (h:MS a b m s) (k:KL [] s S) {g:Nat} (ho:own [a,b] S g):own [a,b] s g:=by
 have h1:=h.lt
 have h2:=h.hp.1.lt
 rcases own_two.1 ho with h' | h'
 ·exact own_two.2 (.inl (k.own h1 h'))
 exact own_two.2 (.inr (k.own h2 h'))
end Go.Sim.W
namespace Go.Sim.W
open Go Go.Sim
theorem wrel.mono {G H:Int → Int → Prop} (h:∀ x y,G x y → H x y) {w u:Word} (k:wrel G w u):wrel H w u:=⟨k.1,fun e=>h _ _ (k.2.1 e),k.2.2⟩
theorem wrels.mono {G H:Int → Int → Prop} (h:∀ x y,G x y → H x y) {a b:List Word} (k:wrels G a b):wrels H a b:=⟨k.1,fun i w u hw hu=>(k.2 i w u hw hu).mono h⟩
theorem wrel.zero (G:Int → Int → Prop):wrel G w0 w0:=⟨rfl,fun h=>(by cases h),fun _=>rfl⟩
theorem wrels.nil (G:Int → Int → Prop):wrels G [] []:=⟨rfl,fun i w u h=>by simp at h⟩
theorem wrels.cons {G:Int → Int → Prop} {w u:Word} {a b:List Word} (h:wrel G w u) (k:wrels G a b):wrels G (w :: a) (u :: b):=by
 refine ⟨by simp [k.1],fun i x y hx hy=>?_⟩
 cases i with
 | zero =>
   simp only [List.getElem?_cons_zero,Oie] at hx hy
   subst hx
   subst hy
   exact h
 | succ i=>exact k.2 i x y (by simpa using hx) (by simpa using hy)
theorem wrels.append {G:Int → Int → Prop} {a b c d:List Word} (h:wrels G a b) (k:wrels G c d):wrels G (a ++ c) (b ++ d):=by
 refine ⟨by simp [h.1,k.1],fun i x y hx hy=>?_⟩
 rcases Nat.lt_or_ge i a.length with hi | hi
 ·rw [List.getElem?_append_left hi] at hx
  rw [List.getElem?_append_left (by rw [← h.1];exact hi)] at hy
  exact h.2 i x y hx hy
 rw [List.getElem?_append_right hi] at hx
 rw [List.getElem?_append_right (by rw [← h.1];exact hi),← h.1] at hy
 exact k.2 _ x y hx hy
theorem wrels.rep (G:Int → Int → Prop) (k:Nat):wrels G (List.replicate k w0) (List.replicate k w0):=by
 refine ⟨J,fun i x y hx hy=>?_⟩
 rw [hx] at hy
 cases hy
 rw [List.eq_of_mem_replicate (Lmg hx)]
 exact wrel.zero G
theorem wrels.set {G:Int → Int → Prop} {a b:List Word} (h:wrels G a b) {w u:Word} (k:wrel G w u) (i:Nat):wrels G (a.set i w) (b.set i u):=by
 refine ⟨by simp [h.1],fun j x y hx hy=>?_⟩
 rcases Nat.lt_or_ge i a.length with hi | hi
 ·by_cases e:i=j
  ·subst e
   rw [List.getElem?_set_self hi] at hx
   rw [List.getElem?_set_self (by rw [← h.1];exact hi)] at hy
   cases hx
   cases hy
   exact k
  rw [List.getElem?_set_ne e] at hx hy
  exact h.2 j x y hx hy
 rw [List.set_eq_of_length_le hi] at hx
 rw [List.set_eq_of_length_le (by rw [← h.1];exact hi)] at hy
 exact h.2 j x y hx hy
theorem wrels.take {G:Int → Int → Prop} {a b:List Word} (h:wrels G a b) (k:Nat):wrels G (a.take k) (b.take k):=by
 refine ⟨by simp [h.1],fun j x y hx hy=>?_⟩
 rcases Nat.lt_or_ge j k with hj | hj
 ·rw [List.getElem?_take_of_lt hj] at hx hy
  exact h.2 j x y hx hy
 rw [List.getElem?_eq_none (by rw [List.length_take];omega)] at hx
 cases hx
theorem wrels.flip {G:Int → Int → Prop} {a b:List Word} (h:wrels G a b):wrels (fun x y=>G y x) b a :=
 ⟨h.1.symm,fun i w u hw hu=>by
  obtain ⟨e,f,g⟩:=h.2 i u w hu hw
  exact ⟨e.symm,fun q=>f (e.trans q),fun q=>(g (e.trans q)).symm⟩⟩
theorem Iso.flip {G:Int → Int → Prop} {A B:List HOb} (h:Iso G A B):Iso (fun x y=>G y x) B A :=
 ⟨fun x y g=>by
  obtain ⟨o,u,h1,h2,h3,h4⟩:=h.ob y x g
  exact ⟨u,o,h2,h1,h3.symm,h4.flip⟩,fun x y y' g g'=>h.inj _ _ _ g g',fun x x' y g g'=>h.fn _ _ _ g g'⟩
def compG (G H:Int → Int → Prop) (x z:Int):Prop:=∃ y,G x y ∧ H y z
theorem wrels.comp {G H:Int → Int → Prop} {a b c:List Word} (h:wrels G a b) (k:wrels H b c):wrels (compG G H) a c:=by
 refine ⟨h.1.trans k.1,fun i w v hw hv=>?_⟩
 obtain ⟨u,hu⟩:=get_of_lt (l:=b) (i:=i) (by rw [← h.1];exact lt_of_get hw)
 obtain ⟨a1,a2,a3⟩:=h.2 i w u hw hu
 obtain ⟨b1,b2,b3⟩:=k.2 i u v hu hv
 exact ⟨a1.trans b1,fun e=>⟨u.n,a2 e,b2 (a1 ▸ e)⟩,fun e=>(a3 e).trans (b3 (a1 ▸ e))⟩
theorem Iso.comp {G H:Int → Int → Prop} {A B C:List HOb} (h:Iso G A B) (k:Iso H B C):Iso (compG G H) A C:=by
 refine ⟨fun x z ⟨y,g1,g2⟩=>?_,fun x z z' ⟨y,g1,g2⟩ ⟨y',g3,g4⟩=>?_,fun x x' z ⟨y,g1,g2⟩ ⟨y',g3,g4⟩=>?_⟩
 ·obtain ⟨o,u,h1,h2,h3,h4⟩:=h.ob x y g1
  obtain ⟨u',v,k1,k2,k3,k4⟩:=k.ob y z g2
  obtain rfl:u=u':=by rw [h2] at k1;exact Option.some.inj k1
  exact ⟨o,v,h1,k2,h3.trans k3,h4.comp k4⟩
 ·obtain rfl:=h.fn _ _ _ g1 g3
  exact k.fn _ _ _ g2 g4
 obtain rfl:=k.inj _ _ _ g2 g4
 exact h.inj _ _ _ g1 g3
def GT (T:TL) (x y:Int):Prop:=mvV T x=y + 1 ∧ 0 ≤ y
theorem gt_some {T:TL} {x y:Int} (h:GT T x y):∃ o,tAt T x=some o ∧ o.at_=y:=by
 obtain ⟨h1,h2⟩:=h
 unfold mvV at h1
 split at h1
 ·rename_i o ho
  exact ⟨o,ho,by omega⟩
 omega
theorem gt_of {obs:List HOb} {T:TL} (k:TI obs T) {x:Int} {o:HOb} (h:tAt T x=some o):GT T x o.at_:=by
 obtain ⟨h1,_,h2,_⟩:=mvV_at k h
 exact ⟨h1,h2⟩
theorem gt_app {T:TL} {x y:Int} (h:GT T x y) (E:TL):GT (T ++ E) x y:=by
 obtain ⟨o,h1,h2⟩:=gt_some h
 have h3:=tAt_app h1 E
 refine ⟨?_,h.2⟩
 rw [mvV,h3]
 show o.at_ + 1=_
 omega
theorem gt_put {T:TL} {i:Nat} {q:Int × HOb} (hq:T[i]?=some q) {fs:List Word} {x y:Int} (h:GT T x y):GT (putT T i q fs) x y:=by
 refine ⟨?_,h.2⟩
 rw [mvV_put hq]
 exact h.1
theorem mvW_rel {obs:List HOb} {T:TL} {l:List Word} (k:TI obs T) (hv:validW obs l=true):wrels (GT (mvW obs T l).2) l (mvW obs T l).1:=by
 induction l generalizing T with
 | nil=>exact wrels.nil _
 | cons w l ih =>
   obtain ⟨h1,h2⟩:=validW_cons.1 hv
   unfold mvW
   split
   ·rename_i hr
    obtain ⟨o,ho⟩:=mvT_at (T:=T) (h1 hr)
    obtain ⟨E,hE⟩:=mvW_pre obs (mvT obs T w.n) l
    refine wrels.cons ⟨hr,fun _=>?_,fun h=>by rw [hr] at h;cases h⟩ (ih (k.mvT w.n) h2)
    show GT (mvW obs (mvT obs T w.n) l).2 w.n (nad (mvT obs T w.n) w.n)
    rw [hE,(mvV_at (k.mvT w.n) ho).2.1]
    exact gt_app (gt_of (k.mvT w.n) ho) E
   rename_i hr
   exact wrels.cons ⟨rfl,fun h=>absurd h hr,fun _=>rfl⟩ (ih k h2)
theorem mvW_reach {obs:List HOb} {P:Int → Prop} {T:TL} {l:List Word} (h:∀ q ∈ T,P q.1) (hl:∀ w ∈ l,w.ref=true → P w.n):∀ q ∈ (mvW obs T l).2,P q.1:=by
 induction l generalizing T with
 | nil=>exact h
 | cons w l ih =>
   unfold mvW
   split
   ·rename_i hr
    refine ih (fun q hq=>?_) fun w hw=>hl w (by simp [hw])
    unfold mvT at hq
    split at hq
    ·exact h q hq
    split at hq
    ·exact h q hq
    rcases List.mem_append.1 hq with hq | hq
    ·exact h q hq
    rw [List.mem_singleton.1 hq]
    exact hl w (by simp) hr
   exact ih h fun w hw=>hl w (by simp [hw])
structure SG (obs:List HOb) (P:Int → Prop) (i:Nat) (T:TL):Prop where
 new:∀ j,j < i → ∀ q,T[j]?=some q → ∃ o,obAt obs q.1=some o ∧ wrels (GT T) o.fs q.2.fs
 rc:∀ q ∈ T,P q.1
theorem SG.step {obs:List HOb} {P:Int → Prop} (hP:∀ x o,P x → obAt obs x=some o → ∀ w ∈ o.fs,w.ref=true → P w.n) {i:Nat} {T:TL} (h:SI obs i T) (g:SG obs P i T) (hv:∀ o ∈ obs,validW obs o.fs=true) {q:Int × HOb} (hq:T[i]?=some q) :
 SG obs P (i + 1) (putT (mvW obs T q.2.fs).2 i q (mvW obs T q.2.fs).1) ∧ ∀ x y,GT T x y → GT (putT (mvW obs T q.2.fs).2 i q (mvW obs T q.2.fs).1) x y:=by
 obtain ⟨_,hq2,hval,_⟩:=h.step hv hq
 obtain ⟨o,ho,hf⟩:=h.old i (Nat.le_refl _) q hq
 obtain ⟨E,hE⟩:=mvW_pre obs T q.2.fs
 have hlt:=lt_of_get hq
 have hlt2:=lt_of_get hq2
 have up:∀ x y,GT T x y → GT (putT (mvW obs T q.2.fs).2 i q (mvW obs T q.2.fs).1) x y:=fun x y hg=>gt_put hq2 (by rw [hE];exact gt_app hg E)
 refine ⟨⟨fun j hj p hp=>?_,fun p hp=>?_⟩,up⟩
 ·rcases Nat.lt_or_ge j i with hji | hji
  ·rw [putT,List.getElem?_set_ne (by omega),hE,List.getElem?_append_left (by omega)] at hp
   obtain ⟨o',h1,h2⟩:=g.new j hji p hp
   exact ⟨o',h1,h2.mono up⟩
  obtain rfl:j=i:=by omega
  rw [putT,List.getElem?_set_self hlt2] at hp
  cases hp
  refine ⟨o,ho,?_⟩
  rw [← hf]
  exact (mvW_rel h.ti hval).mono fun x y hg=>gt_put hq2 hg
 have hall:=mvW_reach (obs:=obs) (l:=q.2.fs) g.rc (by rw [hf];exact hP q.1 o (g.rc q (Lmg hq)) ho)
 rcases List.mem_or_eq_of_mem_set hp with hp | rfl
 ·exact hall p hp
 exact g.rc q (Lmg hq)
theorem SG.fin {obs:List HOb} {P:Int → Prop} {i:Nat} {T:TL} (g:SG obs P i T) (hi:T.length ≤ i):(∀ q ∈ T,∃ o,obAt obs q.1=some o ∧ wrels (GT T) o.fs q.2.fs) ∧ (∀ q ∈ T,P q.1) ∧ ∀ x y,GT T x y → GT T x y:=by
 refine ⟨fun q hq=>?_,g.rc,fun _ _ h=>h⟩
 obtain ⟨j,hj⟩:=List.getElem?_of_mem hq
 exact g.new j (by have:=lt_of_get hj;omega) q hj
theorem scan_iso {obs:List HOb} {P:Int → Prop} (hP:∀ x o,P x → obAt obs x=some o → ∀ w ∈ o.fs,w.ref=true → P w.n) (hv:∀ o ∈ obs,validW obs o.fs=true) {k i:Nat} {T:TL} (h:SI obs i T) (g:SG obs P i T) (hk:obs.length < k + i) :
 (∀ q ∈ scanT obs k i T,∃ o,obAt obs q.1=some o ∧ wrels (GT (scanT obs k i T)) o.fs q.2.fs) ∧ (∀ q ∈ scanT obs k i T,P q.1) ∧ ∀ x y,GT T x y → GT (scanT obs k i T) x y:=by
 induction k generalizing i T with
 | zero =>
   have:=h.ti.len
   exact g.fin (by omega)
 | succ k ih =>
   unfold scanT
   split
   ·rename_i hn
    exact g.fin (List.getElem?_eq_none_iff.1 hn)
   rename_i q hq
   obtain ⟨h1,_⟩:=h.step hv hq
   obtain ⟨g1,g2⟩:=g.step hP h hv hq
   obtain ⟨a,b,c⟩:=ih h1 g1 (by omega)
   exact ⟨a,b,fun x y hg=>c x y (g2 x y hg)⟩
theorem addrs_idx {a:Int} {l:List HOb} (h:addrs a l) {i j:Nat} {o u:HOb} (hi:l[i]?=some o) (hj:l[j]?=some u) (e:o.at_=u.at_):i=j:=by
 induction l generalizing a i j with
 | nil=>simp at hi
 | cons b l ih =>
   have h1:=h.1
   cases i with
   | zero =>
     cases j with
     | zero=>rfl
     | succ j =>
       simp only [List.getElem?_cons_zero,Oie] at hi
       have:=(addrs_ge h.2 u (Lmg (by simpa using hj))).1
       subst hi
       omega
   | succ i =>
     cases j with
     | zero =>
       simp only [List.getElem?_cons_zero,Oie] at hj
       have:=(addrs_ge h.2 o (Lmg (by simpa using hi))).1
       subst hj
       omega
     | succ j=>exact congrArg (· + 1) (ih h.2 (i:=i) (j:=j) (by simpa using hi) (by simpa using hj))
theorem addrs_mem {l:List HOb} (h:addrs 0 l) {o:HOb} (ho:o ∈ l):obAt l o.at_=some o:=by
 obtain ⟨i,hi⟩:=List.getElem?_of_mem ho
 exact obAt_get h hi
theorem addrs_nd {a:Int} {l:List HOb} (h:addrs a l):l.Nodup:=by
 induction l generalizing a with
 | nil=>exact List.nodup_nil
 | cons b l ih =>
   refine List.nodup_cons.2 ⟨fun hb=>?_,ih h.2⟩
   have:=(addrs_ge h.2 b hb).1
   have:=h.1
   omega
theorem tAt_of {T:TL} (nd:(T.map (·.1)).Nodup) {x:Int} {o:HOb} (h:(x,o) ∈ T):tAt T x=some o:=by
 induction T with
 | nil=>cases h
 | cons p T ih =>
   rw [List.map_cons,List.nodup_cons] at nd
   simp only [tAt,List.find?_cons]
   rcases List.mem_cons.1 h with h | h
   ·subst h
    simp
   have hne:p.1 ≠ x:=fun e=>nd.1 (by rw [e];exact List.mem_map.2 ⟨_,h,rfl⟩)
   rw [decide_eq_false hne]
   exact ih nd.2 h
theorem collect_iso {h:RH} (k:HInv h) {roots:List Word} (hr:validW h.obs roots=true) {P:Int → Prop} (hroot:∀ w ∈ roots,w.ref=true → P w.n) (hP:∀ x o,P x → obAt h.obs x=some o → ∀ w ∈ o.fs,w.ref=true → P w.n) :
 ∃ G,Iso G h.obs (collectP h roots).1.obs ∧ wrels G roots (collectP h roots).2 ∧ ∀ o ∈ (collectP h roots).1.obs,∃ x,P x ∧ G x o.at_:=by
 have hS:=SI.root k roots
 have hG:SG h.obs P 0 (mvW h.obs [] roots).2:=⟨fun j hj=>absurd hj (Nat.not_lt_zero _),mvW_reach (fun q hq=>by cases hq) hroot⟩
 obtain ⟨ti,_⟩:=scan_ok k.v hS (k:=h.obs.length + 1) (by omega)
 obtain ⟨a,b,c⟩:=scan_iso hP k.v hS hG (k:=h.obs.length + 1) (by omega)
 have e:(collectP h roots).1.obs=tos (scanT h.obs (h.obs.length + 1) 0 (mvW h.obs [] roots).2):=rfl
 rw [e]
 generalize hT:scanT h.obs (h.obs.length + 1) 0 (mvW h.obs [] roots).2=T at ti a b c
 refine ⟨GT T,⟨fun x y g=>?_,fun x y y' g g'=>?_,fun x x' y g g'=>?_⟩,?_,fun o ho=>?_⟩
 ·obtain ⟨o,h1,h2⟩:=gt_some g
  have hm:=tAt_mem h1
  obtain ⟨o0,h3,h4⟩:=a _ hm
  obtain ⟨o1,h5,_,h6⟩:=ti.ok _ hm
  obtain rfl:o0=o1:=by rw [h3] at h5;exact Option.some.inj h5
  refine ⟨o0,o,h3,?_,h6.symm,h4⟩
  rw [← h2]
  exact addrs_mem ti.ad (List.mem_map.2 ⟨_,hm,rfl⟩)
 ·have h1:=g.1
  have h2:=g'.1
  omega
 ·obtain ⟨o,h1,h2⟩:=gt_some g
  obtain ⟨o',h3,h4⟩:=gt_some g'
  obtain ⟨i,hi⟩:=List.getElem?_of_mem (tAt_mem h1)
  obtain ⟨j,hj⟩:=List.getElem?_of_mem (tAt_mem h3)
  obtain rfl:=addrs_idx ti.ad (tos_get hi) (tos_get hj) (h2.trans h4.symm)
  rw [hi] at hj
  cases hj
  rfl
 ·exact (mvW_rel (T:=[]) ⟨trivial,by simp,by simp⟩ hr).mono c
 obtain ⟨q,hq,rfl⟩:=List.mem_map.1 ho
 exact ⟨q.1,b q hq,gt_of ti (tAt_of ti.nd hq)⟩
theorem cells_inj {B A:List HOb} (H:HOb → HOb → Prop) (nd:B.Nodup) (h1:∀ b ∈ B,∃ a ∈ A,H a b ∧ a.fs.length=b.fs.length) (h2:∀ a b b',b ∈ B → b' ∈ B → H a b → H a b' → b=b'):(cellsF B).length ≤ (cellsF A).length:=by
 induction B generalizing A with
 | nil=>exact Nat.zero_le _
 | cons b B ih =>
   obtain ⟨a,ha,hH,hl⟩:=h1 b (by simp)
   obtain ⟨A1,A2,rfl⟩:=List.append_of_mem ha
   rw [List.nodup_cons] at nd
   have:=ih (A:=A1 ++ A2) nd.2 (fun b' hb'=>by
    obtain ⟨a',ha',hH',hl'⟩:=h1 b' (by simp [hb'])
    refine ⟨a',?_,hH',hl'⟩
    have hne:a' ≠ a:=fun e=>nd.1 (by rw [h2 a b b' (by simp) (by simp [hb']) hH (e ▸ hH')];exact hb')
    simp only [List.mem_append,List.mem_cons] at ha' ⊢
    rcases ha' with h | h | h
    ·exact .inl h
    ·exact absurd h hne
    exact .inr h) (fun a b1 b2 m1 m2=>h2 a b1 b2 (by simp [m1]) (by simp [m2]))
   simp only [cells_app,List.length_append,cells_cons] at this ⊢
   omega
structure RM (m n:VM):Prop where
 co:n.code=m.code
 at_:n.at_=m.at_
 nw:n.news=m.news
 fu:n.fuel=m.fuel
 fi:n.fin=m.fin
 va:n.val=m.val
 ou:n.outs=m.outs
 st:n.steps=m.steps
 ov:n.over=m.over
 sz:m.h.size ≤ n.h.size
 g:∃ G,Iso G m.h.obs n.h.obs ∧ wrels G m.regs n.regs
theorem RM.gcL {m n:VM} (h:RM m n) (i:MInv m):RM m.gc n:=by
 obtain ⟨G,g1,g2⟩:=h.g
 obtain ⟨H,k1,k2,_⟩:=collect_iso i.hi i.v (P:=fun _=>True) (fun _ _ _=>trivial) (fun _ _ _ _ _ _ _=>trivial)
 exact ⟨h.co,h.at_,h.nw,h.fu,h.fi,h.va,h.ou,h.st,h.ov,h.sz,_,k1.flip.comp g1,k2.flip.comp g2⟩
theorem RM.gcR {m n:VM} (h:RM m n) (i:MInv n):RM m n.gc ∧ (cellsF n.gc.h.obs).length ≤ (cellsF m.h.obs).length:=by
 obtain ⟨G,g1,g2⟩:=h.g
 obtain ⟨H,k1,k2,k3⟩:=collect_iso i.hi i.v (P:=fun y=>∃ x,G x y) (fun w hw hr=>by
  obtain ⟨j,hj⟩:=List.getElem?_of_mem hw
  obtain ⟨u,hu⟩:=get_of_lt (l:=m.regs) (i:=j) (by rw [g2.1];exact lt_of_get hj)
  obtain ⟨e,f,_⟩:=g2.2 j u w hu hj
  exact ⟨_,f (e.trans hr)⟩) (fun y o ⟨x,hx⟩ ho w hw hr=>by
  obtain ⟨o',u,h1,h2,h3,h4⟩:=g1.ob x y hx
  obtain rfl:u=o:=by rw [h2] at ho;exact Option.some.inj ho
  obtain ⟨j,hj⟩:=List.getElem?_of_mem hw
  obtain ⟨v,hv⟩:=get_of_lt (l:=o'.fs) (i:=j) (by rw [h4.1];exact lt_of_get hj)
  obtain ⟨e,f,_⟩:=h4.2 j v w hv hj
  exact ⟨_,f (e.trans hr)⟩)
 have ad:=(collect_inv i.hi i.v).1.ad
 have iso:=g1.comp k1
 refine ⟨⟨h.co,h.at_,h.nw,h.fu,h.fi,h.va,h.ou,h.st,h.ov,h.sz,_,iso,g2.comp k2⟩,?_⟩
 refine cells_inj (fun a b=>compG G H a.at_ b.at_) (addrs_nd ad) (fun b hb=>?_) (fun a b b' hb hb' q q'=>?_)
 ·obtain ⟨y,⟨x,hx⟩,hy⟩:=k3 b hb
  obtain ⟨o,u,h1,h2,h3,h4⟩:=iso.ob x b.at_ ⟨y,hx,hy⟩
  obtain rfl:b=u:=by
   have:=addrs_mem ad hb
   rw [this] at h2
   exact Option.some.inj h2
  exact ⟨o,obAt_mem h1,by rw [obAt_at h1];exact ⟨y,hx,hy⟩,h4.1⟩
 have e:=iso.fn _ _ _ q q'
 have h1:=addrs_mem ad hb
 rw [e,addrs_mem ad hb'] at h1
 exact (Option.some.inj h1).symm
theorem MInv.alloc0 {m:VM} (h:MInv m):MInv m.alloc0:=by
 unfold VM.alloc0
 split
 ·exact h.gc
 exact h
theorem MInv.fit1 {m:VM} (h:MInv m) (k:Nat):MInv (m.fit1 k):=by
 unfold VM.fit1
 split
 ·exact h
 exact h.gc
theorem RM.alloc0 {m n:VM} (h:RM m n) (i:MInv m) (j:MInv n):RM m.alloc0 n.alloc0:=by
 have h1:RM m.alloc0 n:=by
  unfold VM.alloc0
  split
  ·exact h.gcL i
  exact h
 have e:n.alloc0=n.gc ∨ n.alloc0=n:=by
  unfold VM.alloc0
  split
  ·exact .inl rfl
  exact .inr rfl
 rcases e with e | e
 ·rw [e];exact (h1.gcR j).1
 rw [e];exact h1
theorem RM.fit1 {m n:VM} (h:RM m n) (i:MInv m) (j:MInv n) {k:Nat} (hf:(m.fit1 k).fits k=true):RM (m.fit1 k) (n.fit1 k) ∧ (n.fit1 k).fits k=true:=by
 have h1:RM (m.fit1 k) n:=by
  unfold VM.fit1
  split
  ·exact h
  exact h.gcL i
 by_cases hn:n.fits k=true
 ·have e:n.fit1 k=n:=by rw [VM.fit1,if_pos hn]
  rw [e]
  exact ⟨h1,hn⟩
 have e:n.fit1 k=n.gc:=by rw [VM.fit1,if_neg hn]
 rw [e]
 obtain ⟨h2,h3⟩:=h1.gcR j
 refine ⟨h2,?_⟩
 have h4:=h2.sz
 simp only [VM.fits,Dte] at hf ⊢
 omega
theorem wrels.setR {G:Int → Int → Prop} {a b:List Word} (h:wrels G a b) {w u:Word} (k:wrel G w u) (r:Int):wrels G (setR a r w) (setR b r u):=by
 unfold W.setR padR
 rw [← h.1]
 exact (h.append (wrels.rep G _)).set k _
theorem wrels.getR {G:Int → Int → Prop} {a b:List Word} (h:wrels G a b) (r:Int):wrel G (getR a r) (getR b r):=by
 unfold W.getR
 rcases Nat.lt_or_ge r.toNat a.length with hl | hl
 ·obtain ⟨w,hw⟩:=get_of_lt hl
  obtain ⟨u,hu⟩:=get_of_lt (l:=b) (i:=r.toNat) (by rw [← h.1];exact hl)
  rw [hw,hu]
  exact h.2 _ _ _ hw hu
 rw [List.getElem?_eq_none hl,List.getElem?_eq_none (by rw [← h.1];exact hl)]
 exact wrel.zero G
theorem wrels.listR {G:Int → Int → Prop} {a b:List Word} (h:wrels G a b) (rs:List Int):wrels G (listR a rs) (listR b rs):=by
 induction rs with
 | nil=>exact wrels.nil G
 | cons r rs ih=>exact wrels.cons (h.getR r) ih
theorem obAt_none {h:RH} (k:HInv h):obAt h.obs ((cellsF h.obs).length:Int)=none:=by
 cases e:obAt h.obs ((cellsF h.obs).length:Int) with
 | none=>rfl
 | some o =>
   have:=(obAt_cells k.ad e).2.2.2.1
   omega
theorem obAt_push {l:List HOb} {x:Int} {o:HOb} (h:obAt l x=some o) (k:List HOb):obAt (l ++ k) x=some o:=by
 simp only [obAt] at h ⊢
 rw [List.find?_append,h]
 rfl
theorem obAt_new {l:List HOb} {o:HOb} (h:obAt l o.at_=none):obAt (l ++ [o]) o.at_=some o:=by
 simp only [obAt] at h ⊢
 rw [List.find?_append,h]
 simp
theorem RM.new {m n:VM} (h:RM m n) (i:HInv m.h) (j:HInv n.h) (x:Instr):RM (m.new x) (n.new x):=by
 obtain ⟨G,g1,g2⟩:=h.g
 have e1:=obAt_none i
 have e2:=obAt_none j
 have n1:∀ y,¬ G ((cellsF m.h.obs).length:Int) y:=fun y hg=>by
  obtain ⟨o,_,ho,_⟩:=g1.ob _ _ hg
  rw [e1] at ho
  cases ho
 have n2:∀ y,¬ G y ((cellsF n.h.obs).length:Int):=fun y hg=>by
  obtain ⟨_,o,_,ho,_⟩:=g1.ob _ _ hg
  rw [e2] at ho
  cases ho
 have up:∀ a b,G a b → (G a b ∨ (a=((cellsF m.h.obs).length:Int) ∧ b=((cellsF n.h.obs).length:Int))):=fun a b h=>.inl h
 refine ⟨h.co,?_,?_,h.fu,h.fi,h.va,h.ou,h.st,h.ov,h.sz,fun a b=>G a b ∨ (a=((cellsF m.h.obs).length:Int) ∧ b=((cellsF n.h.obs).length:Int)),⟨?_,?_,?_⟩,?_⟩
 ·show n.at_ + 1=m.at_ + 1
  rw [h.at_]
 ·show n.news + 1=m.news + 1
  rw [h.nw]
 ·rintro a b (g | ⟨rfl,rfl⟩)
  ·obtain ⟨o,u,h1,h2,h3,h4⟩:=g1.ob a b g
   exact ⟨o,u,obAt_push h1 _,obAt_push h2 _,h3,h4.mono up⟩
  exact ⟨_,_,obAt_new (o:=⟨(cellsF m.h.obs).length,x.n,listR m.regs x.regs⟩) e1,obAt_new (o:=⟨(cellsF n.h.obs).length,x.n,listR n.regs x.regs⟩) e2,rfl,(g2.listR x.regs).mono up⟩
 ·rintro a b b' (g | ⟨rfl,rfl⟩) (g' | ⟨q1,q2⟩)
  ·exact g1.fn _ _ _ g g'
  ·subst q1;exact absurd g (n1 _)
  ·exact absurd g' (n1 _)
  exact q2.symm
 ·rintro a a' b (g | ⟨q1,q2⟩) (g' | ⟨q3,q4⟩)
  ·exact g1.inj _ _ _ g g'
  ·subst q4;exact absurd g (n2 _)
  ·subst q2;exact absurd g' (n2 _)
  exact q1.trans q3.symm
 exact (g2.mono up).setR (w:=⟨true,((cellsF m.h.obs).length:Int)⟩) (u:=⟨true,((cellsF n.h.obs).length:Int)⟩) ⟨rfl,fun _=>.inr ⟨rfl,rfl⟩,fun e=>(by cases e)⟩ x.a
theorem RM.with {m n:VM} (h:RM m n) {G:Int → Int → Prop} (g1:Iso G m.h.obs n.h.obs) {a b:List Word} (g2:wrels G a b) (k:Int):RM { m with regs:=a,at_:=k } { n with regs:=b,at_:=k } :=
 ⟨h.co,rfl,h.nw,h.fu,h.fi,h.va,h.ou,h.st,h.ov,h.sz,G,g1,g2⟩
theorem RM.go {m n:VM} (h:RM m n) (k:Int):RM { m with at_:=k } { n with at_:=k } :=
 ⟨h.co,rfl,h.nw,h.fu,h.fi,h.va,h.ou,h.st,h.ov,h.sz,h.g⟩
theorem RM.put {m n:VM} (h:RM m n) {G:Int → Int → Prop} (g1:Iso G m.h.obs n.h.obs) (g2:wrels G m.regs n.regs) {w u:Word} (k:wrel G w u) (r:Int):RM (m.put r w) (n.put r u):=by
 have:=h.with g1 (g2.setR k r) (m.at_ + 1)
 unfold VM.put
 rw [h.at_]
 exact this
theorem RM.tagR {m n:VM} (h:RM m n) (r:Int):tagR n r=tagR m r:=by
 obtain ⟨G,g1,g2⟩:=h.g
 obtain ⟨e,f,_⟩:=g2.getR r
 unfold W.tagR
 by_cases hr:(W.getR m.regs r).ref=true
 ·rw [if_pos hr,if_pos (e ▸ hr)]
  obtain ⟨o,u,h1,h2,h3,_⟩:=g1.ob _ _ (f hr)
  rw [h1,h2]
  exact h3.symm
 rw [if_neg hr,if_neg (e ▸ hr)]
theorem exec_iso {m n:VM} (h:RM m n) (i:MInv m) (j:MInv n) (x:Instr):(m.exec x).2=2 ∨ ((n.exec x).2=(m.exec x).2 ∧ RM (m.exec x).1 (n.exec x).1):=by
 obtain ⟨G,g1,g2⟩:=h.g
 by_cases h0:x.op=0
 ·simp only [VM.exec,if_pos h0]
  exact .inr ⟨trivial,h.put g1 g2 ⟨rfl,fun e=>(by cases e),fun _=>rfl⟩ _⟩
 by_cases h1:x.op=1
 ·simp only [VM.exec,if_neg h0,if_pos h1]
  exact .inr ⟨trivial,h.put g1 g2 (g2.getR _) _⟩
 by_cases h2:x.op=2
 ·simp only [VM.exec,if_neg h0,if_neg h1,if_pos h2,VM.primS]
  obtain ⟨b1,_,b2⟩:=g2.getR x.b
  obtain ⟨c1,_,c2⟩:=g2.getR x.c
  rw [← b1,← c1]
  by_cases hr:((getR m.regs x.b).ref || (getR m.regs x.c).ref)=true
  ·rw [if_pos hr,if_pos hr]
   exact .inr ⟨rfl,h⟩
  rw [if_neg hr,if_neg hr]
  have hr':(getR m.regs x.b).ref=false ∧ (getR m.regs x.c).ref=false:=by simpa using hr
  rw [← b2 hr'.1,← c2 hr'.2]
  exact .inr ⟨rfl,h.put g1 g2 ⟨rfl,fun e=>(by cases e),fun _=>rfl⟩ _⟩
 by_cases h3:x.op=3
 ·simp only [VM.exec,if_neg h0,if_neg h1,if_neg h2,if_pos h3,VM.allocS]
  by_cases hf:(m.alloc0.fit1 x.regs.length).fits x.regs.length=true
  ·obtain ⟨k1,k2⟩:=(h.alloc0 i j).fit1 i.alloc0 j.alloc0 hf
   rw [if_pos hf,if_pos k2]
   exact .inr ⟨rfl,k1.new (i.alloc0.fit1 _).hi (j.alloc0.fit1 _).hi x⟩
  rw [if_neg hf]
  exact .inl rfl
 by_cases h4:x.op=4
 ·simp only [VM.exec,if_neg h0,if_neg h1,if_neg h2,if_neg h3,if_pos h4,VM.loadS]
  obtain ⟨b1,b2,_⟩:=g2.getR x.b
  by_cases hr:(getR m.regs x.b).ref=true
  ·rw [if_pos hr,if_pos (b1 ▸ hr)]
   obtain ⟨o,u,k1,k2,k3,k4⟩:=g1.ob _ _ (b2 hr)
   rw [k1,k2]
   simp only [Obs]
   rcases Nat.lt_or_ge x.n.toNat o.fs.length with hl | hl
   ·obtain ⟨w,hw⟩:=get_of_lt hl
    obtain ⟨v,hv⟩:=get_of_lt (l:=u.fs) (i:=x.n.toNat) (by rw [← k4.1];exact hl)
    rw [hw,hv]
    exact .inr ⟨rfl,h.put g1 g2 (k4.2 _ _ _ hw hv) _⟩
   rw [List.getElem?_eq_none hl,List.getElem?_eq_none (by rw [← k4.1];exact hl)]
   exact .inr ⟨rfl,h⟩
  rw [if_neg hr,if_neg (b1 ▸ hr)]
  exact .inr ⟨rfl,h⟩
 by_cases h5:x.op=5
 ·simp only [VM.exec,if_neg h0,if_neg h1,if_neg h2,if_neg h3,if_neg h4,if_pos h5,VM.zeroS]
  obtain ⟨b1,_,b2⟩:=g2.getR x.a
  by_cases hr:(getR m.regs x.a).ref=true
  ·rw [if_pos hr,if_pos (b1 ▸ hr)]
   exact .inr ⟨rfl,h⟩
  have hr2:¬ (getR n.regs x.a).ref=true:=b1 ▸ hr
  rw [if_neg hr,if_neg hr2]
  rw [← b2 (by simpa using hr),h.at_]
  by_cases hz:(getR m.regs x.a).n=0
  ·rw [if_pos hz,if_pos hz]
   exact .inr ⟨rfl,h.go _⟩
  rw [if_neg hz,if_neg hz]
  exact .inr ⟨rfl,h.go _⟩
 by_cases h6:x.op=6
 ·simp only [VM.exec,if_neg h0,if_neg h1,if_neg h2,if_neg h3,if_neg h4,if_neg h5,if_pos h6,VM.chooseS,h.tagR]
  by_cases ht:tagR m x.a < 0
  ·rw [if_pos ht,if_pos ht]
   exact .inr ⟨rfl,h⟩
  rw [if_neg ht,if_neg ht]
  cases x.to[(tagR m x.a).toNat]? with
  | none=>exact .inr ⟨rfl,h⟩
  | some a=>exact .inr ⟨rfl,h.go _⟩
 by_cases h7:x.op=7
 ·simp only [VM.exec,if_neg h0,if_neg h1,if_neg h2,if_neg h3,if_neg h4,if_neg h5,if_neg h6,if_pos h7]
  exact .inr ⟨trivial,h.with g1 (g2.listR _) _⟩
 by_cases h8:x.op=8
 ·simp only [VM.exec,if_neg h0,if_neg h1,if_neg h2,if_neg h3,if_neg h4,if_neg h5,if_neg h6,if_neg h7,if_pos h8,VM.enterS,h.tagR]
  rw [show n.code.entries=m.code.entries from by rw [h.co]]
  by_cases ht:tagR m x.a < 0
  ·rw [if_pos ht,if_pos ht]
   exact .inr ⟨rfl,h⟩
  rw [if_neg ht,if_neg ht]
  cases m.code.entries[(tagR m x.a).toNat]? with
  | none=>exact .inr ⟨rfl,h⟩
  | some a=>exact .inr ⟨rfl,h.with g1 (wrels.cons (g2.getR x.a) (g2.listR x.regs)) a⟩
 by_cases h9:x.op=9
 ·simp only [VM.exec,if_neg h0,if_neg h1,if_neg h2,if_neg h3,if_neg h4,if_neg h5,if_neg h6,if_neg h7,if_neg h8,if_pos h9,VM.emitS]
  obtain ⟨b1,_,b2⟩:=g2.getR x.a
  by_cases hr:(getR m.regs x.a).ref=true
  ·rw [if_pos hr,if_pos (b1 ▸ hr)]
   exact .inr ⟨rfl,h⟩
  rw [if_neg hr,if_neg (b1 ▸ hr),← b2 (by simpa using hr),h.at_,h.ou]
  exact .inr ⟨rfl,h.co,rfl,h.nw,h.fu,h.fi,h.va,rfl,h.st,h.ov,h.sz,h.g⟩
 simp only [VM.exec,if_neg h0,if_neg h1,if_neg h2,if_neg h3,if_neg h4,if_neg h5,if_neg h6,if_neg h7,if_neg h8,if_neg h9,VM.doneS]
 obtain ⟨b1,_,b2⟩:=g2.getR x.a
 by_cases hr:(getR m.regs x.a).ref=true
 ·rw [if_pos hr,if_pos (b1 ▸ hr)]
  exact .inr ⟨rfl,h⟩
 rw [if_neg hr,if_neg (b1 ▸ hr),← b2 (by simpa using hr)]
 exact .inr ⟨rfl,h.co,h.at_,h.nw,h.fu,h.fi,rfl,h.ou,h.st,h.ov,h.sz,h.g⟩
theorem stepR_iso {p q:VM × Int} (h:RM p.1 q.1) (e:q.2=p.2):(stepR q).2=(stepR p).2 ∧ RM (stepR p).1 (stepR q).1:=by
 unfold stepR
 rw [e]
 by_cases h1:p.2=1
 ·rw [if_pos h1,if_pos h1]
  exact ⟨rfl,h.co,h.at_,h.nw,h.fu,rfl,h.va,h.ou,h.st,rfl,h.sz,h.g⟩
 rw [if_neg h1,if_neg h1]
 by_cases h2:p.2=2
 ·rw [if_pos h2,if_pos h2]
  exact ⟨rfl,h.co,h.at_,h.nw,h.fu,rfl,h.va,h.ou,h.st,rfl,h.sz,h.g⟩
 rw [if_neg h2,if_neg h2]
 have hs:q.1.steps + 1=p.1.steps + 1:=by rw [h.st]
 by_cases h3:p.2=3
 ·rw [if_pos h3,if_pos h3]
  exact ⟨rfl,h.co,h.at_,h.nw,h.fu,rfl,h.va,h.ou,hs,rfl,h.sz,h.g⟩
 rw [if_neg h3,if_neg h3]
 exact ⟨rfl,h.co,h.at_,h.nw,h.fu,h.fi,h.va,h.ou,hs,h.ov,h.sz,h.g⟩
def VM.fullS (m:VM):Prop:=m.step.2=false ∧ m.step.1.over=true ∧ m.step.1.fin=3
theorem step_iso {m n:VM} (h:RM m n) (i:MInv m) (j:MInv n):m.fullS ∨ (n.step.2=m.step.2 ∧ RM m.step.1 n.step.1):=by
 by_cases ho:m.over=true
 ·rw [show n.step=(n,false) from by rw [VM.step,if_pos (h.ov.trans ho)],show m.step=(m,false) from by rw [VM.step,if_pos ho]]
  exact .inr ⟨rfl,h⟩
 have hon:¬ n.over=true:=by rw [h.ov];exact ho
 by_cases hs:m.steps=m.fuel
 ·rw [show n.step=(n.end_ 1,false) from by rw [VM.step,if_neg hon,if_pos (by rw [h.st,h.fu,hs])],show m.step=(m.end_ 1,false) from by rw [VM.step,if_neg ho,if_pos hs]]
  exact .inr ⟨rfl,h.co,h.at_,h.nw,h.fu,rfl,h.va,h.ou,h.st,rfl,h.sz,h.g⟩
 have hsn:¬ n.steps=n.fuel:=by rw [h.st,h.fu];exact hs
 cases hx:m.code.ins[m.at_.toNat]? with
 | none =>
   rw [show n.step=(n,false) from by rw [VM.step,if_neg hon,if_neg hsn,h.co,h.at_,hx],show m.step=(m,false) from by rw [VM.step,if_neg ho,if_neg hs,hx]]
   exact .inr ⟨rfl,h⟩
 | some x =>
   have e1:n.step=stepR (n.exec x):=by rw [VM.step,if_neg hon,if_neg hsn,h.co,h.at_,hx]
   have e2:m.step=stepR (m.exec x):=by rw [VM.step,if_neg ho,if_neg hs,hx]
   rcases exec_iso h i j x with e | ⟨e,k⟩
   ·refine .inl ?_
    unfold VM.fullS
    rw [e2,stepR,if_neg (by rw [e];decide),if_pos e]
    exact ⟨rfl,rfl,rfl⟩
   rw [e1,e2]
   exact .inr (stepR_iso k e)
theorem RM.nowR {m n:VM} (h:RM m n):n.nowR=m.nowR:=by
 unfold VM.nowR
 rw [h.ov,h.fi,h.va,h.ou,h.st]
theorem wrel.w0_iff {G:Int → Int → Prop} {w u:Word} (h:wrel G w u):w=w0 ↔ u=w0:=by
 obtain ⟨e,f,g⟩:=h
 obtain ⟨a,b⟩:=w
 obtain ⟨c,d⟩:=u
 dsimp only at e f g
 subst e
 simp only [w0,Word.mk.injEq]
 refine and_congr_right fun ha=>?_
 rw [g ha]
theorem trim_rel {G:Int → Int → Prop} {a b:List Word} (h:wrels G a b) (k:Nat) (hk:k ≤ a.length):trimN b k=trimN a k:=by
 induction k with
 | zero=>rfl
 | succ k ih =>
   obtain ⟨w,hw⟩:=get_of_lt (l:=a) (i:=k) (by omega)
   obtain ⟨u,hu⟩:=get_of_lt (l:=b) (i:=k) (by rw [← h.1];omega)
   have e:=(h.2 k w u hw hu).w0_iff
   unfold trimN
   rw [hw,hu]
   by_cases hz:w=w0
   ·rw [if_pos (congrArg some (e.1 hz)),if_pos (congrArg some hz)]
    exact ih (by omega)
   rw [if_neg (fun x=>hz (e.2 (Option.some.inj x))),if_neg (fun x=>hz (Option.some.inj x))]
theorem trimR_rel {G:Int → Int → Prop} {a b:List Word} (h:wrels G a b):wrels G (trimR a) (trimR b):=by
 unfold trimR
 rw [← h.1,trim_rel h _ (Nat.le_refl _)]
 exact h.take _
theorem new_rel (c:Code) (size more period other fuel:Int) (inputs:List Int) (hs:size ≤ more):RM (newM c size period fuel inputs) (newM c more other fuel inputs) :=
 ⟨rfl,rfl,rfl,rfl,rfl,rfl,rfl,rfl,rfl,hs,fun _ _=>False,⟨fun _ _ h=>h.elim,fun _ _ _ h=>h.elim,fun _ _ _ h=>h.elim⟩,rfl,fun i w u hw hu=>by
  obtain rfl:w=u:=by
   have hu':(newM c size period fuel inputs).regs[i]?=some u:=hu
   rw [hw] at hu'
   exact Option.some.inj hu'
  have hm:=Lmg hw
  have hr:w.ref=false:=by
   obtain ⟨k,_,rfl⟩:=List.mem_map.1 (show w ∈ inputs.map fun k=>(⟨false,k⟩:Word) from hm)
   rfl
  exact ⟨rfl,fun e=>(by rw [hr] at e;cases e),fun _=>rfl⟩⟩
end Go.Sim.W
namespace Go.Sim.W
open Go Go.Sim
structure TM (im ih a b:Nat) (m u:VM) (S:Sg):Prop where
 M:MS im ih m S
 N:MS a b u S
 i:MInv m
 j:MInv u
 d1:im ∉ [a,b]
 d2:ih ∉ [a,b]
 d3:a ∉ [im,ih]
 d4:b ∉ [im,ih]
 ap:∀ g,own [a,b] S g → ¬ own [im,ih] S g
 r:RM m u
theorem TM.kl {im ih a b:Nat} {m u:VM} {S S':Sg} (h:TM im ih a b m u S) (k:KL [] S S'):TM im ih a b m u S' :=
 ⟨h.M.kl k,h.N.kl k,h.i,h.j,h.d1,h.d2,h.d3,h.d4,fun g x y=>h.ap g (h.N.ownk k x) (h.M.ownk k y),h.r⟩
theorem TM.kn {im ih a b:Nat} {m u u':VM} {S S':Sg} (h:TM im ih a b m u S) (N:MS a b u' S') (k:KX [a,b] S S') (j:MInv u') (r:RM m u'):TM im ih a b m u' S':=by
 obtain ⟨M,ap⟩:=h.M.kx k h.d1 h.d2 fun g x y=>h.ap g y x
 exact ⟨M,N,h.i,j,h.d1,h.d2,h.d3,h.d4,fun g x y=>ap g y x,r⟩
theorem TM.two {im ih a b:Nat} {m u m' u':VM} {S S1 S2 S3:Sg} (h:TM im ih a b m u S) (M:MS im ih m' S1) (k1:KX [im,ih] S S1) (k2:KL [] S1 S2) (N:MS a b u' S3) (k3:KX [a,b] S2 S3) (i:MInv m') (j:MInv u') (r:RM m' u'):TM im ih a b m' u' S3:=by
 obtain ⟨N1,ap1⟩:=h.N.kx k1 h.d3 h.d4 h.ap
 obtain ⟨M3,ap3⟩:=(M.kl k2).kx k3 h.d1 h.d2 fun g x y=>ap1 g (N1.ownk k2 y) (M.ownk k2 x)
 exact ⟨M3,N,i,j,h.d1,h.d2,h.d3,h.d4,fun g x y=>ap3 g y x,r⟩
theorem trimR_len {l:List Word} (h:l.length ≤ 1024):(trimR l).length ≤ 2 ^ 40:=by
 rw [trimR,List.length_take]
 omega
theorem hidi_l (l:List Int) (fuel:Int) (i:Nat) (im ih a b:Nat) (m u:VM) (j:Nat) (hj:j ≤ l.length) (hs:l.length ≤ 2 ^ 40) {n:Nat} {v:Nat → Bool} {D:List (Nat × List AV)} {S:Sg} {Q:Ex → Fr → Prop} (T:TM im ih a b m u S)
 (hX:∀ k u' S',TM im ih a b m u' S' → Q (.exit 2) ⟨upd (upd (upd (upd (upd (upd (upd (upd (upd ((fun _=>none)) 95 (some (.val (B false)))) 94 (some (.val (I k)))) 93 (some (.val (I (l.map I).length)))) 92 (some (.val (ints l)))) 21 (some (.val (I i)))) 19 (some (.val (.ptr a 0)))) 17 (some (.val (.ptr im 0)))) 7 (some (.val (ints l)))) 5 (some (.val (I fuel))),(fun _=>none),n,v,D,S'⟩):EX (callL p) (.loop F4_l2) ⟨upd (upd (upd (upd (upd (upd (upd (upd ((fun _=>none)) 94 (some (.val (I j)))) 93 (some (.val (I (l.map I).length)))) 92 (some (.val (ints l)))) 21 (some (.val (I i)))) 19 (some (.val (.ptr a 0)))) 17 (some (.val (.ptr im 0)))) 7 (some (.val (ints l)))) 5 (some (.val (I fuel))),(fun _=>none),n,v,D,S⟩ Q:=by
 refine eloop (er (qp J (qb ?_)))
 rintro (_ | _) h1
 ·refine qn (kq9 J) kn (eseq (ecF J (eexit (sqx ?_))))
  exact hX _ _ _ T
 refine qn (kq9 J) kn (eseq (ecT J (eskip (sqn (eseq (eblock (er ?_)))))))
 have hlt:j < l.length:=by simpa using h1
 obtain ⟨d,hd⟩:=get_of_lt hlt
 refine hia (y:=I d) rfl rfl (by omega) (by simp [hd]) rfl (qp rfl (qp rfl (qk (kc rfl (kc rfl (kc rfl (kc rfl (kc rfl (kc rfl (kc rfl (kc rfl (kc rfl kn))))))))) kn (sqn (eseq (ereg (qp rfl (qp rfl (qp rfl (qb ?_))))))))))
 rintro (_ | _) h2
 ·refine qp J (zq3 J (qp J (qn (kq9 J) kn (ecF J (eskip (bqn (sqn (ereg (hadd J J (i64w (by omega)) (qp J (qk (kq8 J) kn ?_)))))))))))
  first
  | exact hidi_l l fuel i im ih a b m _ (j + 1) (by omega) hs T1 hX
  | exact hidi_l l fuel i im ih a b m u (j + 1) (by omega) hs T hX
 refine qp J (qg J (qp J (qg J (hcall J J J (mgc_c _ a b u T.N T.j.r30 T.j.v) ?_))))
 rintro _ S1 ⟨rfl,N1,k1⟩
 have T1:=T.kn N1 k1 T.j.gc (T.r.gcR T.j).1
 refine qg J (qp J (qb ?_))
 rintro (_ | _) h3
 ·refine qp J (qn (kq9 J) kn (ecF J (eskip (bqn (sqn (ereg (hadd J J (i64w (by omega)) (qp J (qk (kq8 J) kn ?_)))))))))
  first
  | exact hidi_l l fuel i im ih a b m _ (j + 1) (by omega) hs T1 hX
  | exact hidi_l l fuel i im ih a b m u (j + 1) (by omega) hs T hX
 refine qp J (qn (kq9 J) kn (ecT J (er (qp J (qn (kq1 J) kn (eret (bqr (sqr ?_))))))))
 exfalso
 first
 | exact absurd (show (!true)=true from by assumption) (by decide)
 | simp_all
termination_by l.length - j
decreasing_by all_goals omega
theorem hid_l (l:List Int) (fuel:Int) (hf:fuel ≤ 2 ^ 20) (im ih a b:Nat) (i:Nat) (m u:VM) (hs:l.length ≤ 2 ^ 40) {n:Nat} {v:Nat → Bool} {D:List (Nat × List AV)} {S:Sg} {Q:Ex → Fr → Prop} (T:TM im ih a b m u S)
 (hX:∀ E' L' n' v' S',Q (.exit 0) ⟨E',L',n',v',D,S'⟩) (hR:∀ n' v' S',Q .ret ⟨upd ((fun _=>none)) 16 (some (.val (B true))),(fun _=>none),n',v',D,S'⟩):EX (callL p) (.loop F4_l1) ⟨upd (upd (upd (upd (upd ((fun _=>none)) 21 (some (.val (I i)))) 19 (some (.val (.ptr a 0)))) 17 (some (.val (.ptr im 0)))) 7 (some (.val (ints l)))) 5 (some (.val (I fuel))),(fun _=>none),n,v,D,S⟩ Q:=by
 refine eloop (eseq (er (pq3 J (qb ?_))))
 rintro (_ | _) h1
 refine qn (kq6 J) kn (ecF J (eexit (sqx ?_)))
 exact hX _ _ _ _ _
 refine qn (kq6 J) kn (ecT J (eskip (sqn (eseq (eblock (eseq (er (pq3 J (qn (kq8 J) kn (eblock (hidi_l l fuel i im ih a b m u 0 (Nat.zero_le _) hs T ?_)))))))))))
 intro k u S0 T
 refine bqx (sqn (er (qp J (hcall J J J (step_c _ im ih m T.M T.i) ?_))))
 rintro _ S1 ⟨rfl,M1,k1⟩
 have I1:=step_inv T.i
 refine qb ?_
 rintro (_ | _) h2
 refine qp J (qn (kq6 J) kn (er (qp J (hcall J J J (mrun_c _ im ih m.step.1 M1 I1.ol40) ?_))))
 rintro _ S2 ⟨rfl,k2⟩
 refine pq3 J (hal (dq11 J) (hstl J J J J (Nlb J) (lq4 J) (qp J (qn (kq7 J) (kq1 J) (eseq (er (pq3 J (qg J (qp J (qg J (qp J (qg J (qp J (qb ?_))))))))))))))
 rintro (_ | _) h3
 refine qp J (qn (kq8 J) (kq1 J) (ecF J (eskip (sqn (er ?_)))))
 obtain ⟨e,R⟩:=(step_iso T.r T.i T.j).resolve_left (by
  rintro ⟨f1,f2,f3⟩
  simp_all [VM.nowR])
 have J1:=step_inv T.j
 refine qp J (hcall J J J (step_c _ a b u ((T.N.kx k1 T.d3 T.d4 T.ap).1.kl k2) T.j) ?_)
 rintro _ S3 ⟨rfl,N3,k3⟩
 have T3:=T.two M1 k1 k2 N3 k3 I1 J1 R
 rw [e]
 refine qp J (qn (kq8 J) (kq1 J) (er (qp J (hcall J J J (mrun_c _ a b u.step.1 T3.N J1.ol40) ?_))))
 rintro _ S4 ⟨rfl,k4⟩
 rw [R.nowR]
 refine pq3 J (hal (dq13 J) (hstl J J J J (Nlb J) (lq4 J) (qp J (qn (kq9 J) (kq2 J) (er (qp J (hcall J J J (mregs_c _ im ih m.step.1 (T3.kl k4).M I1.rl) ?_)))))))
 rintro _ S5 ⟨rfl,k5⟩
 refine qp J (hcall J J J (mregs_c _ a b u.step.1 ((T3.kl k4).kl k5).N J1.rl) ?_)
 rintro _ S6 ⟨rfl,k6⟩
 refine pq2 J (qn (kq11 J) (kq2 J) (er (qp J (hcall J J J (mheap_c _ im ih m.step.1 (((T3.kl k4).kl k5).kl k6).M) ?_))))
 rintro _ S7 ⟨x1,rfl,H1,k7⟩
 refine pq2 J (hcall J J J (mheap_c _ a b u.step.1 ((((T3.kl k4).kl k5).kl k6).kl k7).N) ?_)
 rintro _ S8 ⟨x2,rfl,H2,k8⟩
 obtain ⟨G,g1,g2⟩:=R.g
 refine qp J (hcall J J J (hsame_c _ G x1 x2 m.step.1.h u.step.1.h g1 (H1.klq k8) H2 (trimR m.step.1.regs) (trimR u.step.1.regs) (trimR_rel g2) (trimR_len I1.rl)) ?_)
 rintro _ S9 ⟨rfl,k9⟩
 refine pq2 J (qb ?_)
 rintro (_ | _) h4
 refine pq3 J (qn (kq11 J) (kq2 J) (eseq (er (pq3 J (qb ?_)))))
 rintro (_ | _) h5
 refine qp J (qg J (hlda J J (lq4 J) (qg J (hlda J J (lq4 J) (qg J (hcall J J J (same18_c _ m.step.1.nowR m.step.1.nowR I1.ol40) ?_))))))
 rintro _ _ ⟨rfl,rfl⟩
 rw [same_refl]
 refine qb ?_
 rintro (_ | _) h6
 refine qg J (pq3 J (zq2 J (pq2 J (zq2 J (qp J (qn (kq7 J) kn (ecT J (er (qp J (qn (kq1 J) kn (eret (sqr (bqr (sqr ?_))))))))))))))
 first
 | exact hR _ _ _
 | (exfalso;simp_all)
 refine qg J (pq3 J (qg J (qp J (qg J (qp J (qb ?_))))))
 rintro (_ | _) h7
 refine pq2 J (qg J (qp J (qg J (pq2 J (qn (kq7 J) kn (ecT J (er (qp J (qn (kq1 J) kn (eret (sqr (bqr (sqr ?_)))))))))))))
 first
 | exact hR _ _ _
 | (exfalso;simp_all)
 refine pq2 J (zq2 J (qp J (qn (kq7 J) kn (ecT J (er (qp J (qn (kq1 J) kn (eret (sqr (bqr (sqr ?_)))))))))))
 first
 | exact hR _ _ _
 | (exfalso;simp_all)
 rotate_left
 refine pq3 J (qn (kq11 J) (kq2 J) (eseq (er (pq3 J (qb ?_)))))
 rintro (_ | _) h8
 refine qp J (qg J (hlda J J (lq4 J) (qg J (hlda J J (lq4 J) (qg J (hcall J J J (same18_c _ m.step.1.nowR m.step.1.nowR I1.ol40) ?_))))))
 rintro _ _ ⟨rfl,rfl⟩
 rw [same_refl]
 refine qb ?_
 rintro (_ | _) h9
 refine qg J (pq3 J (zq2 J (pq2 J (zq2 J (qp J (qn (kq7 J) kn (ecT J (er (qp J (qn (kq1 J) kn (eret (sqr (bqr (sqr ?_))))))))))))))
 first
 | exact hR _ _ _
 | (exfalso;simp_all)
 refine qg J (pq3 J (qg J (qp J (qg J (qp J (qb ?_))))))
 rintro (_ | _) h10
 refine pq2 J (qg J (qp J (qg J (pq2 J (qn (kq7 J) kn (ecF J (eskip (sqn (er (pq2 J (qn (kq6 J) kn (ecT J (eexit (bqm (by decide) (sqx ?_)))))))))))))))
 exact hX _ _ _ _ _
 refine pq2 J (zq2 J (qp J (qn (kq7 J) kn (ecT J (er (qp J (qn (kq1 J) kn (eret (sqr (bqr (sqr ?_)))))))))))
 first
 | exact hR _ _ _
 | (exfalso;simp_all)
 rotate_left
 refine qp J (qn (kq8 J) (kq1 J) (ecT J (er (hcall J J J (awake_c _) ?_))))
 rintro _ SA ⟨rfl,kA⟩
 refine qp J (qn (kq1 J) kn (eret (sqr (bqr (sqr ?_)))))
 first
 | exact hR _ _ _
 | (exfalso;simp_all)
 refine qp J (qn (kq6 J) kn (er (qp J (hcall J J J (mrun_c _ im ih m.step.1 M1 I1.ol40) ?_))))
 rintro _ S2 ⟨rfl,k2⟩
 refine pq3 J (hal (dq11 J) (hstl J J J J (Nlb J) (lq4 J) (qp J (qn (kq7 J) (kq1 J) (eseq (er (pq3 J (zq3 J (qp J (qn (kq8 J) (kq1 J) (ecF J (eskip (sqn (eseq ?_))))))))))))))
 refine ereg ?_
 obtain ⟨e,R⟩:=(step_iso T.r T.i T.j).resolve_left (by
  rintro ⟨f1,f2,f3⟩
  simp_all [VM.nowR])
 have J1:=step_inv T.j
 refine qp J (hcall J J J (step_c _ a b u ((T.N.kx k1 T.d3 T.d4 T.ap).1.kl k2) T.j) ?_)
 rintro _ S3 ⟨rfl,N3,k3⟩
 have T3:=T.two M1 k1 k2 N3 k3 I1 J1 R
 rw [e]
 refine qp J (qn (kq8 J) (kq1 J) (er (qp J (hcall J J J (mrun_c _ a b u.step.1 T3.N J1.ol40) ?_))))
 rintro _ S4 ⟨rfl,k4⟩
 rw [R.nowR]
 refine pq3 J (hal (dq13 J) (hstl J J J J (Nlb J) (lq4 J) (qp J (qn (kq9 J) (kq2 J) (er (qp J (hcall J J J (mregs_c _ im ih m.step.1 (T3.kl k4).M I1.rl) ?_)))))))
 rintro _ S5 ⟨rfl,k5⟩
 refine qp J (hcall J J J (mregs_c _ a b u.step.1 ((T3.kl k4).kl k5).N J1.rl) ?_)
 rintro _ S6 ⟨rfl,k6⟩
 refine pq2 J (qn (kq11 J) (kq2 J) (er (qp J (hcall J J J (mheap_c _ im ih m.step.1 (((T3.kl k4).kl k5).kl k6).M) ?_))))
 rintro _ S7 ⟨x1,rfl,H1,k7⟩
 refine pq2 J (hcall J J J (mheap_c _ a b u.step.1 ((((T3.kl k4).kl k5).kl k6).kl k7).N) ?_)
 rintro _ S8 ⟨x2,rfl,H2,k8⟩
 obtain ⟨G,g1,g2⟩:=R.g
 refine qp J (hcall J J J (hsame_c _ G x1 x2 m.step.1.h u.step.1.h g1 (H1.klq k8) H2 (trimR m.step.1.regs) (trimR u.step.1.regs) (trimR_rel g2) (trimR_len I1.rl)) ?_)
 rintro _ S9 ⟨rfl,k9⟩
 refine pq2 J (qb ?_)
 rintro (_ | _) h11
 refine pq3 J (qn (kq11 J) (kq2 J) (eseq (er (pq3 J (qb ?_)))))
 rintro (_ | _) h12
 refine qp J (qg J (hlda J J (lq4 J) (qg J (hlda J J (lq4 J) (qg J (hcall J J J (same18_c _ m.step.1.nowR m.step.1.nowR I1.ol40) ?_))))))
 rintro _ _ ⟨rfl,rfl⟩
 rw [same_refl]
 refine qb ?_
 rintro (_ | _) h13
 refine qg J (pq3 J (zq2 J (pq2 J (zq2 J (qp J (qn (kq7 J) kn (ecT J (er (qp J (qn (kq1 J) kn (eret (sqr (bqr (sqr ?_))))))))))))))
 first
 | exact hR _ _ _
 | (exfalso;simp_all)
 refine qg J (pq3 J (qg J (qp J (qg J (qp J (qb ?_))))))
 rintro (_ | _) h14
 refine pq2 J (qg J (qp J (qg J (pq2 J (qn (kq7 J) kn (ecT J (er (qp J (qn (kq1 J) kn (eret (sqr (bqr (sqr ?_)))))))))))))
 first
 | exact hR _ _ _
 | (exfalso;simp_all)
 refine pq2 J (zq2 J (qp J (qn (kq7 J) kn (ecT J (er (qp J (qn (kq1 J) kn (eret (sqr (bqr (sqr ?_)))))))))))
 first
 | exact hR _ _ _
 | (exfalso;simp_all)
 rotate_left
 refine pq3 J (qn (kq11 J) (kq2 J) (eseq (er (pq3 J (qb ?_)))))
 rintro (_ | _) h15
 refine qp J (qg J (hlda J J (lq4 J) (qg J (hlda J J (lq4 J) (qg J (hcall J J J (same18_c _ m.step.1.nowR m.step.1.nowR I1.ol40) ?_))))))
 rintro _ _ ⟨rfl,rfl⟩
 rw [same_refl]
 refine qb ?_
 rintro (_ | _) h16
 refine qg J (pq3 J (zq2 J (pq2 J (zq2 J (qp J (qn (kq7 J) kn (ecT J (er (qp J (qn (kq1 J) kn (eret (sqr (bqr (sqr ?_))))))))))))))
 first
 | exact hR _ _ _
 | (exfalso;simp_all)
 refine qg J (pq3 J (qg J (qp J (qg J (qp J (qb ?_))))))
 rintro (_ | _) h17
 refine pq2 J (qg J (qp J (qg J (pq2 J (qn (kq7 J) kn (ecF J (eskip (sqn (er (pq2 J (qn (kq6 J) kn (ecF J (eskip (bqn (sqn (ereg (qp J ?_)))))))))))))))))
 have hi:(i:Int) ≤ fuel:=by simpa using h1
 refine hadd J J (i64w (by omega)) (qp J (qk (kq5 J) kn ?_))
 exact hid_l l fuel hf im ih a b (i + 1) m.step.1 u.step.1 hs (((((T3.kl k4).kl k5).kl k6).kl k7).kl k8 |>.kl k9) hX hR
 refine pq2 J (zq2 J (qp J (qn (kq7 J) kn (ecT J (er (qp J (qn (kq1 J) kn (eret (sqr (bqr (sqr ?_)))))))))))
 first
 | exact hR _ _ _
 | (exfalso;simp_all)
 rotate_left
 all_goals
  refine qp J (zq4 J (pq2 J (zq2 J (pq2 J (zq2 J (qp J (qn (kq7 J) kn (ecT J (er (qp J (qn (kq1 J) kn (eret (sqr ?_)))))))))))))
  refine bqr (sqr ?_)
  first
  | exact hR _ _ _
  | (exfalso;simp_all)
termination_by (fuel + 1 - i).toNat
decreasing_by all_goals omega
theorem VmHidden_c (s:Sg) (hQ:QOK s) (c:Code) (z:CodeSz c) (size more period other fuel:Int) (inputs:List Int) (hs:inputs.length ≤ 2 ^ 30) (l:List Int) (hl:l.length ≤ 2 ^ 30):HC p N4_ [.agg c.cs,I size,I more,I period,I other,I fuel,ints inputs,ints l] s (fun r s'=>r=[B true]):=by
 refine hcf J f4_ J ?_
 simp only [chainOf]
 refine er (hbox (dq8 J) J (lq3 J) (qp J (qn (kq8 J) (kq1 J) (eseq (er (hlda J J (lq3 J) (pq2 J (hcall J J J (looked_c _ hQ c z fuel inputs) ?_))))))))
 rintro _ _ ⟨rfl,rfl⟩
 refine qb ?_
 rintro (_ | _) h1
 refine pq2 J (zq7 J (pq2 J (zq7 J (pq2 J (zq3 J (qp J ?_))))))
 refine qn (kq9 J) (kq1 J) (ecT J (er (hcall J J J (awake_c _) ?_)))
 rintro _ _ ⟨rfl,kA⟩
 refine qp J (qn (kq1 J) kn (eret (sqr (fqr J ?_))))
 rotate_left
 refine pq2 J (qg J (hlda J J (lq3 J) (qg J (qp J (qg J (qp J (qg J (qp J (qg J (qp J (qg J (hcall J J J (chk_c _ hQ c z size period fuel inputs hs) ?_))))))))))))
 rintro _ _ ⟨rfl,rfl⟩
 refine qg J (qp J (qb ?_))
 rintro (_ | _) h2
 refine pq2 J (qg J (hlda J J (lq3 J) (qg J (qp J (qg J (qp J (qg J (qp J (qg J (qp J (qg J (hcall J J J (chk_c _ hQ c z more other fuel inputs hs) ?_))))))))))))
 rintro _ _ ⟨rfl,rfl⟩
 refine qg J (qp J (qb ?_))
 rintro (_ | _) h3
 have hc:chkE c size period fuel inputs=0:=by simpa using h2
 have hc2:chkE c more other fuel inputs=0:=by simpa using h3
 refine pq2 J (qg J (qp J (qg J (qp J (qg J (qp J (qb ?_)))))))
 rintro (_ | _) h4
 refine qp J (qn (kq9 J) (kq1 J) (ecF J (eskip (sqn (er (hlda J J (lq3 J) (pq4 J (hcall J J J (new_c _ c z size period fuel inputs hs) ?_))))))))
 rintro _ S1 ⟨q,rfl,hK1,q1,q2⟩
 obtain ⟨im,ih,rfl,M1,F1⟩:=q1 hc
 refine pq5 J (qn (kq8 J) (kq1 J) (er (hlda J J (lq3 J) (pq4 J (hcall J J J (new_c _ c z more other fuel inputs hs) ?_)))))
 rintro _ S2 ⟨q',rfl,hK2,q3,q4⟩
 obtain ⟨a,b,rfl,N2,F2⟩:=q3 hc2
 have ap:=fr_apart (m':=newM c more other fuel inputs) M1 F2
 have lx:=M1.lt
 have lx2:=M1.hp.1.lt
 have ly:=F2.nim
 have ly2:=F2.nih
 have T:TM im ih a b (newM c size period fuel inputs) (newM c more other fuel inputs) S2:=⟨M1.kl hK2,N2,newM_inv hc,newM_inv hc2,by simp;omega,by simp;omega,ap.1,ap.2.1,ap.2.2,new_rel c size more period other fuel inputs (by simpa using h4)⟩
 refine pq5 J (qn (kq6 J) kn (eseq (er (pq2 J (qb ?_)))))
 rintro (_ | _) h5
 refine qp J (qg J (qp J (qg J (qp J (qb ?_)))))
 rintro (_ | _) h6
 refine qp J (qn (kq5 J) kn (ecF J (eskip (sqn (eseq (er (qp J (qn (kq5 J) kn (eblock ?_)))))))))
 refine hid_l l fuel (newM_inv hc).st.2.2 im ih a b 0 _ _ (Nat.le_trans hl (by decide)) T ?_ ?_
 intro E' L' n' v' S'
 refine bqx (sqn (er (hcall J J J (awake_c _) ?_)))
 rintro _ _ ⟨rfl,kA⟩
 refine qp J (qn (kq1 J) kn (eret (fqr J ?_)))
 rotate_left
 intro n' v' S'
 refine bqr (sqr (fqr J ?_))
 rotate_left
 refine qp J (qn (kq5 J) kn (ecT J (er (qp J (qn (kq1 J) kn (eret (sqr (fqr J ?_))))))))
 rotate_left
 refine qp J (zq2 J (qp J (qn (kq5 J) kn (ecT J (er (qp J (qn (kq1 J) kn (eret (sqr (fqr J ?_))))))))))
 rotate_left
 refine qp J (qn (kq9 J) (kq1 J) (ecT J (er (hcall J J J (awake_c _) ?_))))
 rintro _ _ ⟨rfl,kA⟩
 refine qp J (qn (kq1 J) kn (eret (sqr (fqr J ?_))))
 rotate_left
 refine pq2 J (zq3 J (qp J (qn (kq9 J) (kq1 J) (ecT J (er (hcall J J J (awake_c _) ?_))))))
 rintro _ _ ⟨rfl,kA⟩
 refine qp J (qn (kq1 J) kn (eret (sqr (fqr J ?_))))
 rotate_left
 refine pq2 J (zq7 J (pq2 J (zq3 J (qp J (qn (kq9 J) (kq1 J) (ecT J (er (hcall J J J (awake_c _) ?_))))))))
 rintro _ _ ⟨rfl,kA⟩
 refine qp J (qn (kq1 J) kn (eret (sqr (fqr J ?_))))
 rotate_left
 all_goals
  first
  | exact rfl
  | (exfalso
     first
     | exact absurd (show (!true)=true from by assumption) (by decide)
     | simp_all)
end Go.Sim.W
