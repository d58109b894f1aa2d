/- Operation by operation. Bytes and strings; interfaces that are nil or not; bound functions. -/
import Derived.Test.YtcbfjgpdogcdbaaGreatDoorW01
import Derived.Laws.BytesString
import Derived.Lib.ConvBytes
import Derived.Orders
import Derived.RangeFuncRecord
set_option linter.unusedVariables false
set_option linter.unusedSectionVars false
set_option linter.unusedSimpArgs false
namespace Go.Nac
variable [Env]
section
variable {R:CCode → Code → Prop} {P:Program} {M:List Blk} {L:Loc} {w:World} {ρ:CX → PV} {σ:Operand → Value}
theorem QqH (S:Sim R M L w) (H:Fit M L w ρ σ) {o:Oper} {f:FuncId} {xs:List CX} {first:Array Operand} (ho:o.op = .makeFunc (.func f) first #[]) (hx:okXs xs first.toList = true) :
  Good R P (execOp σ o) M L w (.fn (.func f) (xs.map ρ) []) M:=by
 have k:=H.list hx
 refine Qi S (cv:=.func (.func f) (first.map σ) #[]) (by simp [execOp,ho,Instr.makeFunc]) (.fn _ _ _ _ _ ?_ .nil)
 simpa using k
theorem Qa7 (d:Nat) {t:TypeId} {ms:Array (String × TypeId)} (ht:P.underlying t = some (.interface ms)) (a:TypeId) (b:Value):(Op.equalIn (d + 1) t (.iface a b) .nilIface).run P w = .ok false w:=by
 simp [Op.equalIn,run_underlying ht]
theorem Qb6 (d:Nat) {t:TypeId} {ms:Array (String × TypeId)} (ht:P.underlying t = some (.interface ms)):(Op.equalIn (d + 1) t .nilIface .nilIface).run P w = .ok true w:=by
 simp [Op.equalIn,run_underlying ht]
theorem QfA {neg:Bool} {t:TypeId} {ms:Array (String × TypeId)} (ht:P.underlying t = some (.interface ms)) (a:TypeId) (b:Value):(binOp (if neg then .neq else .eql) t (.iface a b) .nilIface).run P w = .ok (.bool neg) w:=by
 have h:=Qa7 (w:=w) 9999 ht a b
 cases neg
 ·show Sem.run P (do pure (Value.bool (← Op.equal t (.iface a b) .nilIface))) w = _
  simp only [Sem.run_bind,Op.equal,Op.maxDepth,h,Result.andThen_ok,Sem.run_pure]
 ·show Sem.run P (do pure (Value.bool (!(← Op.equal t (.iface a b) .nilIface)))) w = _
  simp only [Sem.run_bind,Op.equal,Op.maxDepth,h,Result.andThen_ok,Sem.run_pure];rfl
theorem Qjg {neg:Bool} {t:TypeId} {ms:Array (String × TypeId)} (ht:P.underlying t = some (.interface ms)):(binOp (if neg then .neq else .eql) t .nilIface .nilIface).run P w = .ok (.bool (!neg)) w:=by
 have h:=Qb6 (w:=w) 9999 ht
 cases neg
 ·show Sem.run P (do pure (Value.bool (← Op.equal t .nilIface .nilIface))) w = _
  simp only [Sem.run_bind,Op.equal,Op.maxDepth,h,Result.andThen_ok,Sem.run_pure];rfl
 ·show Sem.run P (do pure (Value.bool (!(← Op.equal t .nilIface .nilIface)))) w = _
  simp only [Sem.run_bind,Op.equal,Op.maxDepth,h,Result.andThen_ok,Sem.run_pure]
theorem QdN (op:BinOp) (t:TypeId) (x y:Operand) (a:TypeId) (b:Value):(eqGuard op t x y (.iface a b) .nilIface).run P w = .ok () w:=by cases op <;> rfl
theorem Qfr (op:BinOp) (t:TypeId) (x:Operand) (c:Value):(eqGuard op t x (.const c) .nilIface .nilIface).run P w = .ok () w:=by cases op <;> cases x <;> rfl
theorem Qof (S:Sim R M L w) (H:Fit M L w ρ σ) {o:Oper} {neg:Bool} {t ty:TypeId} {ms:Array (String × TypeId)} {x:CX} {x':Operand} (ho:o.op = .binOp (if neg then .neq else .eql) t x' (.const .nilIface) ty) (hx:okX x x' = true)
  (hσ:∀ v,σ (.const v) = v) (ht:P.underlying t = some (.interface ms)) {v:PV} {M':List Blk} (h:res M ρ (.isnil neg x) = some (v,M')):Good R P (execOp σ o) M L w v M':=by
 have k1:=H x x' hx
 simp only [res] at h
 split at h
 ·rename_i e1
  rw [e1] at k1
  simp only [Option.some.injEq,Prod.mk.injEq] at h
  obtain ⟨rfl,rfl⟩:=h
  generalize hc:σ x' = c at k1
  cases k1 with
  | err tt vv =>
   refine Qi S ?_ (.s _ rfl)
   simp only [execOp,ho,hc,hσ,Sem.run_bind,QdN,Result.andThen_ok,QfA ht,Sem.run_pure]
 ·rename_i e1
  rw [e1] at k1
  simp only [Option.some.injEq,Prod.mk.injEq] at h
  obtain ⟨rfl,rfl⟩:=h
  have hc:=k1.s_inv
  refine Qi S ?_ (.s _ rfl)
  simp only [execOp,ho,hc,hσ,Sem.run_bind,Qfr,Result.andThen_ok,Qjg ht,Sem.run_pure]
 ·cases h
theorem Qig:∀ {xs:List PV} {s:ByteArray},strOf xs = some s → ∃ ns:List Int,xs = ns.map (fun n => .s (.int .u8 n)) ∧ s.data.toList = ns.map fun n => UInt8.ofNat n.toNat:=by
 intro xs
 induction xs with
 | nil => intro s h;cases h;exact ⟨[],rfl,rfl⟩
 | cons x xs ih =>
  intro s h
  unfold strOf at h
  split at h
  ·rename_i heq;cases heq
  ·rename_i n r heq
   cases heq
   cases hs:strOf xs with
   | none => rw [hs] at h;cases h
   | some t =>
    rw [hs] at h
    cases h
    obtain ⟨ns,rfl,h2⟩:=ih hs
    exact ⟨n :: ns,rfl,by simp [h2]⟩
  ·cases h
theorem Qkj (ns:List Int):∀ r:ByteArray,(ns.foldl (fun r n => r.push (UInt8.ofNat n.toNat)) r).data.toList = r.data.toList ++ ns.map fun n => UInt8.ofNat n.toNat:=by
 induction ns with
 | nil => intro r;simp
 | cons n ns ih => intro r;rw [List.foldl_cons,ih];simp
theorem g_b2s (S:Sim R M L w) (H:Fit M L w ρ σ) {o:Oper} {s t e:TypeId} {x:CX} {x':Operand} (ho:o.op = .convert s t x') (hx:okX x x' = true) (hs:P.underlying s = some (.slice e)) (he:P.underlying e = some (.int .u8))
  (ht:P.underlying t = some .string) {v:PV} {M':List Blk} (h:res M ρ (.b2s x) = some (v,M')):Good R P (execOp σ o) M L w v M':=by
 have k1:=H x x' hx
 simp only [res] at h
 split at h
 ·cases h
 ·rename_i p hno
  simp only [Option.map_eq_some_iff,Option.bind_eq_some_iff,Prod.mk.injEq] at h
  obtain ⟨b,⟨ys,h1,h2⟩,rfl,rfl⟩:=h
  obtain ⟨ns,rfl,hb⟩:=Qig h2
  obtain ⟨us,hr,hl,hf⟩:=JM (P:=P) S k1 h1 (k:=1) (fun y hy => by obtain ⟨n,_,rfl⟩:=List.mem_map.1 hy;rfl) (by decide)
  have hus:us = ns.map (.int .u8):=by
   clear hf hl h1 h2 hb
   induction ns generalizing us with
   | nil => cases hr;rfl
   | cons n ns ih =>
    cases hr with
    | cons _ v _ vs a b => rw [a.s_inv,ih _ b];rfl
  subst hus
  have hsl:∃ a n c,σ x' = .slice a n c:=by
   revert hno h1 k1
   generalize ρ x = p;generalize σ x' = c
   intro k1 hno h1
   cases k1 with
   | fs _ a n cap => exact ⟨_,_,_,rfl⟩
   | os _ _ _ len _ _ _ a cap => exact ⟨_,_,_,rfl⟩
   | os' _ _ _ len _ _ _ _ a cap => exact ⟨_,_,_,rfl⟩
   | s v hv =>
    unfold held at h1
    split at h1
    ·rename_i e;cases e
    ·rename_i e;cases e;exact ⟨_,_,_,rfl⟩
    ·rename_i b e;cases e;exact absurd rfl (hno b)
    ·rename_i e;cases e
    ·cases h1
   | _ => unfold held at h1;cases h1
  obtain ⟨a,n,c,hc⟩:=hsl
  rw [hc] at hl
  have hn:n = (ns.map fun n => PV.s (.int .u8 n)).length:=by simpa [Builtin.lenOf] using hl
  have hfin:=hf n w (by omega) rfl
  rw [hc] at hfin
  refine Qi S ?_ (.s _ rfl)
  have key:(Conv.bytesToString (.slice a n c)).run P w = .ok (.string b) w:=by
   cases a with
   | none =>
    have:n = 0:=by
     have h9:(Result.ok #[] w:Result (Array Value)) = Result.ok (List.take (n * 1) (ns.map (Value.int .u8))).toArray w:=hfin
     injection h9 with h9 _
     have h9:=congrArg Array.size h9
     rw [hn] at h9 ⊢
     simpa using h9.symm
    have hns:ns = []:=by rw [this] at hn;simpa using hn.symm
    subst hns
    have:b = ByteArray.empty:=by
     cases b with
     | mk d => simp at hb;subst hb;rfl
    subst this
    rfl
   | some ad =>
    have hload:(loadCells ad n).run P w = .ok (ns.map (Value.int .u8)).toArray w:=by
     have:=hfin
     simp only [Builtin.firstCells,Nat.mul_one] at this
     rw [this,List.take_of_length_le (by simp [hn])]
    rw [run_bytesToString w ad n c ns hload]
    congr 2
    have:=Qkj ns ByteArray.empty
    cases b with
    | mk d =>
     simp only at hb
     rw [← hb] at this
     generalize List.foldl _ _ ns = z at this ⊢
     cases z with
     | mk z => simp at this;rw [this]
  simp only [execOp,ho,hc,Sem.run_bind,run_convert_bytes_string w s t e a n c hs he ht,key,Result.andThen_ok,Sem.run_pure]
theorem Qif (b:ByteArray):(Qz b).flatMap PV.cells = (b.data.toList.map fun u => Value.int .u8 u.toNat).map .s:=by
 unfold Qz
 induction b.data.toList with
 | nil => rfl
 | cons u l ih => simp only [List.map_cons,List.flatMap_cons,ih];rfl
theorem Yn (b:ByteArray):(Qz b).length = b.size:=by simp [Qz]
theorem Qkf (b:ByteArray):LRel M L w ((Qz b).flatMap PV.cells) (b.data.toList.map fun u => Value.int .u8 u.toNat):=by
 rw [Qif]
 induction b.data.toList with
 | nil => exact .nil
 | cons u l ih => exact .cons _ _ _ _ (.s _ rfl) ih
theorem Qck (w:World) (e:TypeId) (b:ByteArray):(Lib.bytesCells w e b).toList.take ((Qz b).length * 1) = b.data.toList.map fun u => Value.int .u8 u.toNat:=by
 rw [Yn,Nat.mul_one]
 simp only [Lib.bytesCells,Array.toList_append,Array.toList_map]
 rw [List.take_left' (by simp)]
theorem Qcx (w:World) (e:TypeId) (b:ByteArray):(Lib.bytesCells w e b).size = b.size + (grownCap w b.size 0 e - b.size):=by simp [Lib.bytesCells]
theorem V7 (w:World) (e:TypeId) (b:ByteArray):(Lib.bytesWorld w e b).heap = w.heap.push (.cells (Lib.bytesCells w e b) e ((Lib.bytesCells w e b).size,(Lib.bytesCells w e b).size + 1)):=by
 apply Array.ext_getElem?
 intro k
 rcases Nat.lt_trichotomy k w.heap.size with h|h|h
 ·rw [Lib.bytesWorld_at_old w e b k h,Array.getElem?_push_lt h];exact Array.getElem?_eq_getElem h
 ·subst h;rw [Lib.bytesWorld_at_new];simp
 ·rw [Array.getElem?_eq_none (by rw [Lib.bytesWorld_size];omega),Array.getElem?_eq_none (by simp;omega)]
theorem Y7 (w:World) (e:TypeId) (b:ByteArray):Same w (Lib.bytesWorld w e b):=by
 unfold Lib.bytesWorld World.freeze
 split
 ·exact ⟨rfl,rfl,rfl,Nat.le_succ _⟩
 ·exact ⟨rfl,rfl,rfl,Nat.le_succ _⟩
theorem QpE (S:Sim R M L w) {w':World} {C:Array Value} {el:TypeId} {z:Nat × Nat} (hw:Same w w') (hh:w'.heap = w.heap.push (.cells C el z)):Evo M L w M L w' ∧ Sim R M L w':=grow S (.cells C el z) hw hh
theorem g_s2b (S:Sim R M L w) (H:Fit M L w ρ σ) {o:Oper} {own:Bool} {s t e:TypeId} {x:CX} {x':Operand} (ho:o.op = .convert s t x') (hx:okX x x' = true) (hs:P.underlying s = some .string) (ht:P.underlying t = some (.slice e))
  (he:P.underlying e = some (.int .u8)) {v:PV} {M':List Blk} (h:res M ρ (.s2b own x) = some (v,M')):Good R P (execOp σ o) M L w v M':=by
 have k1:=H x x' hx
 simp only [res] at h
 split at h
 ·rename_i b e1
  rw [e1] at k1
  have hc:=k1.s_inv
  have hrun:(execOp σ o).run P w = .ok (.value (.slice (some ⟨w.heap.size,0,none⟩) b.size (grownCap w b.size 0 e))) (Lib.bytesWorld w e b):=by
   simp only [execOp,ho,hc,Sem.run_bind,Lib.run_convert_string_bytes w s t e b hs ht he,Result.andThen_ok,Sem.run_pure]
  have hcap:b.size ≤ grownCap w b.size 0 e:=grownCap_ge w _ _ _
  have hr:LRel M L w ((Qz b).flatMap PV.cells) ((Lib.bytesCells w e b).toList.take ((Qz b).length * 1)):=by rw [Qck];exact Qkf b
  have hk:∀ x ∈ Qz b,x.cells.length = 1:=by intro x hx;obtain ⟨u,_,rfl⟩:=List.mem_map.1 hx;rfl
  cases own with
  | true =>
   simp only [if_true,Option.some.injEq,Prod.mk.injEq] at h
   obtain ⟨rfl,rfl⟩:=h
   obtain ⟨E,S',hv⟩:=QeF S hk hr (Y7 w e b) (V7 w e b) (.inr (Nat.le_refl _)) (grownCap w b.size 0 e) (by rw [Yn];exact hcap) (by rw [Qcx];omega) 0
   rw [Yn] at hv
   exact ⟨_,_,_,.inl hrun,E,S',hv⟩
  | false =>
   simp only [Bool.false_eq_true,if_false,Option.some.injEq,Prod.mk.injEq] at h
   obtain ⟨rfl,rfl⟩:=h
   obtain ⟨E,S'⟩:=QpE S (Y7 w e b) (V7 w e b)
   refine ⟨_,_,_,.inl hrun,E,S',.fs _ _ _ _ 1 _ (Yn b).symm (by rw [Yn];exact hcap) hk (LRel.evo E hr) fun _ => ⟨w.heap.size,0,rfl,by rw [V7];simp,ZY S,fun m u hu => ?_⟩⟩
   have hC:(Lib.bytesCells w e b)[m]? = some u:=by
    rw [List.getElem?_take] at hu
    split at hu
    ·simpa using hu
    ·cases hu
   rw [Nat.zero_add]
   simp [World.cell?,V7,hC]
 ·cases h
theorem Qp2 (S:Sim R M L w) (H:Fit M L w ρ σ) {o:Oper} {s t e:TypeId} {x:CX} {x':Operand} (ho:o.op = .convert s t x') (hx:okX x x' = true) (hst:s = t) (hs:P.underlying s = some (.slice e)) (he:P.underlying e = some (.int .u8))
  {v:PV} {M':List Blk} (h:res M ρ (.mark x) = some (v,M')):Good R P (execOp σ o) M L w v M':=by
 have k1:=H x x' hx
 simp only [res] at h
 split at h
 ·rename_i i ver off len e1
  rw [e1] at k1
  split at h
  ·rename_i hc
   simp only [Option.some.injEq,Prod.mk.injEq] at h
   obtain ⟨rfl,rfl⟩:=h
   obtain ⟨hown,hpos⟩:=hc
   unfold QcA at hown
   split at hown
   ·rename_i k v xs hi
    simp only [beq_iff_eq] at hown
    subst hown
    obtain ⟨a,cap,hcv,hle,hcap,hm⟩:=k1.os_live hi
    obtain ⟨b,q,c,el,hL,rfl,⟨z,hb,hz⟩,hsz⟩:=hm (by omega)
    have hblt:=(Array.getElem?_eq_some_iff.1 hb).1
    let z':Nat × Nat:=if z.1 == z.2 then (c.size,c.size + 1) else (min z.1 c.size,max z.2 (c.size + 1))
    have hz':Unf c.size z':=by
     show Unf c.size (if z.1 == z.2 then (c.size,c.size + 1) else (min z.1 c.size,max z.2 (c.size + 1)))
     split
     ·exact .inr (Nat.le_refl _)
     ·rename_i hne
      rcases hz with hz|hz
      ·exact absurd (by simpa using hz) hne
      ·exact .inr (by show c.size ≤ min z.1 c.size;omega)
    let w':World:=w.freeze ⟨b,c.size,none⟩ 1
    have hwb:w'.heap[b]? = some (.cells c el z'):=by
     show ((if (1:Nat) = 0 then w else _):World).heap[b]? = _
     rw [if_neg (by decide)]
     show (w.heap.modify b _)[b]? = _
     rw [Array.getElem?_modify,if_pos rfl,hb];rfl
    have hwo:∀ j,j ≠ b → w'.heap[j]? = w.heap[j]?:=by
     intro j hj
     show ((if (1:Nat) = 0 then w else _):World).heap[j]? = _
     rw [if_neg (by decide)]
     show (w.heap.modify b _)[j]? = _
     rw [Array.getElem?_modify,if_neg (Ne.symm hj)]
    have hws:w'.heap.size = w.heap.size:=by
     show ((if (1:Nat) = 0 then w else _):World).heap.size = _
     rw [if_neg (by decide)]
     show (w.heap.modify b _).size = _
     simp
    have hsame:Same w w':=⟨rfl,rfl,rfl,Nat.le_refl _⟩
    obtain ⟨hk0,c2,el2,vs,g1,g2,g3,g4⟩:=V8 S hi hL
    obtain ⟨rfl,rfl⟩:=RowAt.uniq ⟨z,hb,hz⟩ g1
    obtain ⟨E,S'⟩:=Qaz S (ver':=v) (o':=q) (xs':=xs) hi hL ⟨z,hb,hz⟩ hsame ⟨z',hwb,hz'⟩ (fun j hj => hwo j hj) hws rfl (.inr ⟨rfl,rfl,rfl⟩) hk0 g2 g3
    have hset:M.set i (.row true k v xs) = M:=by
     obtain ⟨hlt,he⟩:=List.getElem?_eq_some_iff.1 hi
     rw [← he];exact List.set_getElem_self hlt
    have hLu:L.upd i (some (b,q)) = L:=by
     funext j
     by_cases hj:j = i
     ·subst hj;rw [Loc.upd_self,hL]
     ·rw [Loc.upd_ne _ _ hj]
    rw [hset,hLu] at E S'
    have hrun:(execOp σ o).run P w = .ok (.value (.slice (some ⟨b,q + off * k,none⟩) len cap)) w':=by
     have hshape:w.shape? b = some (el,c.size):=by simp [World.shape?,hb]
     have hcon:(convert s t (.slice (some ⟨b,q + off * k,none⟩) len cap)).run P w = .ok (.slice (some ⟨b,q + off * k,none⟩) len cap) w':=by
      subst hst
      simp [convert,run_underlying hs,run_underlying he,markStringish,hshape]
      rfl
     simp only [execOp,ho,hcv,Sem.run_bind,hcon,Result.andThen_ok,Sem.run_pure]
    refine ⟨_,w',L,.inl hrun,E,S',?_⟩
    exact (hcv ▸ k1).evo E
   ·cases hown
  ·cases h
 ·cases h
end
end Go.Nac
namespace Go.Nac
variable [Env]
def Qes:Operand → Bool
 | .const (.slice none 0 0) => true
 | _ => false
def elemT (P:Program) (t:TypeId):Option TypeId :=
 match P.underlying t with
 | some (.slice e) => some e
 | _ => none
def arrT (P:Program) (t:TypeId):Option (Nat × TypeId) :=
 match P.underlying t with
 | some (.array n e) => some (n,e)
 | _ => none
def Yh (P:Program) (t:TypeId):Bool:=match P.underlying t with|some .string => true|_ => false
def QcP (P:Program) (t:TypeId):Bool:=match P.underlying t with|some .bool => true|_ => false
def intT (P:Program) (t:TypeId):Option IntKind:=match P.underlying t with|some (.int k) => some k|_ => none
def fltT (P:Program) (t:TypeId):Option FloatKind:=match P.underlying t with|some (.float k) => some k|_ => none
def mapT (P:Program) (t:TypeId):Option (TypeId × TypeId):=match P.underlying t with|some (.map k e) => some (k,e)|_ => none
def Qc5 (P:Program) (t:TypeId):Bool:=match P.underlying t with|some (.int _) => false|some _ => true|none => false
def QcF (P:Program) (t:TypeId) (f:Nat):Option Field :=
 match P.underlying t with
 | some (.struct fs) => fs[f]?
 | _ => none
section
variable {P:Program} {t:TypeId}
theorem Vc {e:TypeId} (h:elemT P t = some e):P.underlying t = some (.slice e):=by
 unfold elemT at h;split at h
 ·rename_i hu;rw [hu,Option.some.inj h]
 ·cases h
theorem Y2 {n:Nat} {e:TypeId} (h:arrT P t = some (n,e)):P.underlying t = some (.array n e):=by
 unfold arrT at h;split at h
 ·rename_i hu;cases h;exact hu
 ·cases h
theorem V4 (h:Yh P t = true):P.underlying t = some .string:=by
 unfold Yh at h;split at h
 ·assumption
 ·cases h
theorem Qfp (h:QcP P t = true):P.underlying t = some .bool:=by
 unfold QcP at h;split at h
 ·assumption
 ·cases h
theorem Y8 {k:IntKind} (h:intT P t = some k):P.underlying t = some (.int k):=by
 unfold intT at h;split at h
 ·rename_i hu;cases h;exact hu
 ·cases h
theorem Qdc {k:FloatKind} (h:fltT P t = some k):P.underlying t = some (.float k):=by
 unfold fltT at h;split at h
 ·rename_i hu;cases h;exact hu
 ·cases h
theorem QaG {k e:TypeId} (h:mapT P t = some (k,e)):P.underlying t = some (.map k e):=by
 unfold mapT at h;split at h
 ·rename_i hu;cases h;exact hu
 ·cases h
theorem Qd8 (h:Qc5 P t = true):∃ d,P.underlying t = some d ∧ ∀ k,d ≠ .int k:=by
 unfold Qc5 at h;split at h
 ·cases h
 ·rename_i d hn hu;exact ⟨d,hu,fun k e => hn k (by rw [e])⟩
 ·cases h
theorem Qbs {f:Nat} {fd:Field} (h:QcF P t f = some fd):∃ fs,P.underlying t = some (.struct fs) ∧ fs[f]? = some fd:=by
 unfold QcF at h;split at h
 ·rename_i fs hu;exact ⟨fs,hu,h⟩
 ·cases h
def Qfl:Operand → Bool
 | .const .nilIface => true
 | _ => false
theorem QfZ {y:Operand} (h:Qfl y = true):y = .const .nilIface:=by
 unfold Qfl at h;split at h
 ·rfl
 ·cases h
def Qfv (P:Program) (t:TypeId):Bool:=match P.underlying t with|some (.interface _) => true|_ => false
theorem Qfz {P:Program} {t:TypeId} (h:Qfv P t = true):∃ ms,P.underlying t = some (.interface ms):=by
 unfold Qfv at h;split at h
 ·rename_i ms hu;exact ⟨ms,hu⟩
 ·cases h
def Qaq (P:Program) (t:TypeId):Bool:=match P.underlying t with|some (.slice e) => (match P.underlying e with|some (.int .u8) => true|_ => false)|_ => false
theorem Jj {P:Program} {t:TypeId} (h:Qaq P t = true):∃ e,P.underlying t = some (.slice e) ∧ P.underlying e = some (.int .u8):=by
 unfold Qaq at h;split at h
 ·rename_i e hu
  split at h
  ·rename_i he;exact ⟨e,hu,he⟩
  ·cases h
 ·cases h
theorem Qbf {y:Operand} (h:Qes y = true):y = .const (.slice none 0 0):=by
 unfold Qes at h;split at h
 ·rfl
 ·cases h
end
def Qgu (P:Program) (z:List Value) (parts:List (Nat × Nat × CX)) (t:TypeId) (parts':Array (Nat × Operand)):Bool :=
 okZ P t (some z.length) z &&
 match P.underlying t with
 | some (.struct fs) => (match V0 P fs.toList with | some pl => Zs (fun (i:Nat) => pl[i]?) parts parts'.toList | none => false)
 | some (.array _ el) => (match Qs P el with | some k => Zs (fun i => some (i * k,k)) parts parts'.toList | none => false)
 | _ => false
def args1 (c:Call):Option Operand:=match c.args with|⟨[x]⟩ => some x|_ => none
def args2 (c:Call):Option (Operand × Operand):=match c.args with|⟨[x,y]⟩ => some (x,y)|_ => none
def YK (P:Program) (c:COp) (k:Call):Bool :=
 match c,k.callee with
 | .len x,.builtin .len => (match args1 k,k.argTypes[0]? with | some y,some t => okX x y && (elemT P t).isSome | _,_ => false)
 | .lens x,.builtin .len => (match args1 k,k.argTypes[0]? with | some y,some t => okX x y && Yh P t | _,_ => false)
 | .append n bytes x y,.builtin .append =>
  (match args2 k,k.argTypes[0]?,k.argTypes[1]? with
  | some (x',y'),some t,some t1 => okX x x' && okX y y' && Qc5 P t1 &&
    (match elemT P t with
    | some el => Qs P el == some n && (P.info? el).map (·.bytes) == some bytes && (match (P.info? el).bind (·.zero) with | some v => okVs v.cells.toList v.cells.toList && v.cells.size == n && (aggV v || n == 1) | none => false)
    | none => false)
  | _,_,_ => false)
 | .copy n x y,.builtin .copy =>
  (match args2 k,k.argTypes[0]? with
  | some (x',y'),some t => okX x x' && okX y y' && (match elemT P t with | some el => Qs P el == some n | none => false)
  | _,_ => false)
 | .capn x,.builtin .cap => (match args1 k,k.argTypes[0]? with | some y,some t => okX x y && (elemT P t).isSome | _,_ => false)
 | .appz n g z bytes x y,.builtin .append =>
  (match args2 k,k.argTypes[0]?,k.argTypes[1]? with
  | some (x',y'),some t,some t1 => okX x x' && okX y y' && (intT P t1).isSome &&
    (match elemT P t with
    | some el => Qs P el == some n && (P.info? el).map (·.bytes) == some bytes && okZ P el g z
    | none => false)
  | _,_,_ => false)
 | .max x xs,.builtin .max => okXs (x :: xs) k.args.toList
 | .min x xs,.builtin .min => okXs (x :: xs) k.args.toList
 | _,_ => false
def okOp (P:Program) (c:COp) (o:Op):Bool :=
 match o with
 | .move y | .assign y => (match c with | .mov x => okX x y | .onil _ => Qes y | _ => false)
 | .pick c' a' b' => (match c with | .pick c a b => okX c c' && okX a a' && okX b b' | _ => false)
 | .alloc t => (match c with | .alloc g z => okZ P t g z | _ => false)
 | .box _ y => (match c with | .box _ _ x => okX x y | _ => false)
 | .build t parts' => (match c with | .build z parts => Qgu P z parts t parts' | _ => false)
 | .buildSlice t n parts => (match c with
  | .bsl _ k xs => n == xs.length && decide (n * k ≤ 2 ^ 24) && okSeq 0 xs parts.toList && (match elemT P t with | some el => Qs P el == some k && ((P.info? el).bind (·.zero)).isSome | none => false)
  | _ => false)
 | .load t y => (match c with | .load g x => okX x y && okG P t g | _ => false)
 | .store t a' v' => (match c with | .store k a v => okX a a' && okX v v' && Qs P t == some k | _ => false)
 | .nilCheck y => (match c with | .nilc x => okX x y | _ => false)
 | .binOp op' t x' y' _ => (match c with
  | .bin op x y => op == op' && okX x x' && okX y y'
  | .binb op x y => op == op' && okX x x' && okX y y' && QcP P t
  | .sop (.fbin op) [x,y] => op == op' && okX x x' && okX y y'
  | .isnil neg x => op' == (if neg then .neq else .eql) && okX x x' && Qfl y' && Qfv P t
  | .eqs neg lay x y => op' == (if neg then .neq else .eql) && okX x x' && okX y y' && eqTy P 100 t lay && !(P.eqGuardType P.depth t) && aggT P t == some true
  | _ => false)
 | .unOp op' _ y => (match c with | .un op x => op == op' && okX x y | _ => false)
 | .convert s t y => (match c with
  | .conv k x => okX x y && (intT P s).isSome && intT P t == some k
  | .b2s x => okX x y && Qaq P s && Yh P t
  | .s2b _ x => okX x y && Yh P s && Qaq P t
  | .mark x => okX x y && s == t && Qaq P s
  | .sop (.ff d) [x] => okX x y && (P.underlying s).isSome && fltT P t == some d
  | .sop (.fi d) [x] => okX x y && (P.underlying s).isSome && intT P t == some d
  | .sop (.itf d) [x] => okX x y && (P.underlying s).isSome && fltT P t == some d
  | _ => false)
 | .range t y => (match c with | .srng x => okX x y && Yh P t | _ => false)
 | .next y str => (match c with | .snxt x => okX x y && str | _ => false)
 | .sliceToArrayPointer t y => (match c with | .arrp n x => okX x y && (match arrT P t with | some (m,_) => m == n | none => false) | _ => false)
 | .makeFunc f first cap => (match c with | .mkfn g xs => (match f with | .func f => f == g | _ => false) && first.isEmpty && okXs xs cap.toList | .mkbm g xs => (match f with | .func f => f == g | _ => false) && cap.isEmpty && okXs xs first.toList | _ => false)
 | .makeMap _ r => (match c with | .mkmap => r.isNone | _ => false)
 | .makeSlice t l n => (match c with
  | .mksl k g z bytes len cap => okX len l && okX cap n && (match elemT P t with | some el => Qs P el == some k && (P.info? el).map (·.bytes) == some bytes && okZ P el g z | none => false)
  | _ => false)
 | .slice t y lo' hi' mx => mx.isNone && (match c with
  | .slice k x lo hi => okX x y && okXo lo lo' && okXo hi hi' && (match elemT P t with | some el => Qs P el == some k | none => false)
  | .slstr x lo hi => okX x y && okXo lo lo' && okXo hi hi' && Yh P t
  | .arrsl n x => okX x y && lo'.isNone && hi'.isNone && (match arrT P t with | some (m,el) => m == n && Qs P el == some 1 | none => false)
  | _ => false)
 | .fieldAddr t y f => (match c with | .faddr off x => okX x y && (match QcF P t f with | some fd => fd.offset == off && (match Qs P fd.type with | some n => n != 0 | none => false) | none => false) | _ => false)
 | .field t y f => (match c with | .field off g x => okX x y && (match QcF P t f with | some fd => fd.offset == off && okG P fd.type g | none => false) | _ => false)
 | .indexAddr t y i' => (match c with
  | .iaddr k x i => okX x y && okX i i' && (match elemT P t with | some el => Qs P el == some k | none => false)
  | .iaddra n k x i => okX x y && okX i i' && (match arrT P t with | some (m,el) => m == n && Qs P el == some k | none => false)
  | _ => false)
 | .index t y i' => (match c with
  | .idxs x i => okX x y && okX i i' && Yh P t
  | .idxa n k g x i => okX x y && okX i i' && (match arrT P t with | some (m,el) => m == n && Qs P el == some k && okG P el g | none => false)
  | _ => false)
 | .lookup t m' key' ok' => (match c with | .look sk z ok m key => ok == ok' && okX m m' && okX key key' && (match mapT P t with | some (kt,et) => okKey P kt sk && okZ P et none [z] | none => false) | _ => false)
 | .mapUpdate t m' key' v' | .insert t m' key' v' => (match c with | .mupd sk m key v => okX m m' && okX key key' && okX v v' && (match mapT P t with | some (kt,_) => okKey P kt sk | none => false) | _ => false)
 | .extract y i' => (match c with | .ext i x => i == i' && okX x y | _ => false)
 | .call k => YK P c k
 | _ => false
section
variable {R:CCode → Code → Prop} {P:Program} {M:List Blk} {L:Loc} {w w':World} {ρ:CX → PV} {σ:Operand → Value}
theorem Vp {α β:Type} {x:Option α} {M:β} {v:α} {M':β} (h:x.map (·,M) = some (v,M')):x = some v ∧ M' = M:=by
 cases x with
 | none => cases h
 | some y => simp at h;exact ⟨by rw [h.1],h.2.symm⟩
theorem JG {c:Call} {x:Operand} (h:args1 c = some x):c.args = #[x]:=by
 unfold args1 at h;split at h
 ·rename_i y hy;cases h;exact hy
 ·cases h
theorem J3 {c:Call} {x y:Operand} (h:args2 c = some (x,y)):c.args = #[x,y]:=by
 unfold args2 at h;split at h
 ·rename_i a b hy;cases h;exact hy
 ·cases h
theorem QgQ (S:Sim R M L w) (H:Fit M L w ρ σ) (hσ:∀ v,σ (.const v) = v) {o:Oper} {c:COp} (ok:okOp P c o.op = true) {v:PV} {M':List Blk} (h:res M ρ c = some (v,M')):Good R P (execOp σ o) M L w v M':=by
 generalize ho:o.op = op at ok
 cases op with
 | move y =>
  cases c with
  | mov x =>
   simp only [res,Option.some.injEq,Prod.mk.injEq] at h;obtain ⟨rfl,rfl⟩:=h
   exact g_mov S H (.inl ho) ok
  | onil k =>
   exact Qjm S (.inl ho) (Qbf ok) hσ h
  | _ => exact Bool.noConfusion ok
 | assign y =>
  cases c with
  | mov x =>
   simp only [res,Option.some.injEq,Prod.mk.injEq] at h;obtain ⟨rfl,rfl⟩:=h
   exact g_mov S H (.inr ho) ok
  | onil k =>
   exact Qjm S (.inr ho) (Qbf ok) hσ h
  | _ => exact Bool.noConfusion ok
 | pick c' a' b' =>
  cases c with
  | pick c a b =>
   simp only [okOp,Bool.and_eq_true,beq_iff_eq,decide_eq_true_eq,bne_iff_ne,Bool.not_eq_true'] at ok
   simp only [res] at h
   obtain ⟨h1,rfl⟩:=Vp h
   exact Qpo S H ho ok.1.1 ok.1.2 ok.2 h1
  | _ => exact Bool.noConfusion ok
 | alloc t =>
  cases c with
  | alloc g z =>
   exact Qnq S ho ok h
  | _ => exact Bool.noConfusion ok
 | box t y =>
  cases c with
  | box own k x =>
   exact g_box S H ho ok h
  | _ => exact Bool.noConfusion ok
 | build t parts' =>
  cases c with
  | build z parts =>
   simp only [okOp,Qgu,Bool.and_eq_true] at ok
   obtain ⟨hz,ok⟩:=ok
   split at ok
   ·rename_i fs hu
    split at ok
    ·rename_i pl hpl
     exact QcS S H ho hu hz hpl ok h
    ·cases ok
   ·rename_i n el hu
    split at ok
    ·rename_i k hk
     exact QdY S H ho hu hk hz ok h
    ·cases ok
   ·cases ok
  | _ => exact Bool.noConfusion ok
 | buildSlice t n parts =>
  cases c with
  | bsl own k xs =>
   simp only [okOp,Bool.and_eq_true,beq_iff_eq,decide_eq_true_eq,bne_iff_ne,Bool.not_eq_true'] at ok
   obtain ⟨⟨⟨hn,hle⟩,hseq⟩,ok⟩:=ok
   split at ok
   ·rename_i el hel
    simp only [Bool.and_eq_true,beq_iff_eq] at ok
    exact g_bsl S H ho (Vc hel) ok.1 hn hle ok.2 hseq h
   ·cases ok
  | _ => exact Bool.noConfusion ok
 | load t y =>
  cases c with
  | load g x =>
   simp only [okOp,Bool.and_eq_true,beq_iff_eq,decide_eq_true_eq,bne_iff_ne,Bool.not_eq_true'] at ok
   exact Qqy S H ho ok.1 ok.2 h
  | _ => exact Bool.noConfusion ok
 | store t a' v' =>
  cases c with
  | store k a v =>
   simp only [okOp,Bool.and_eq_true,beq_iff_eq,decide_eq_true_eq,bne_iff_ne,Bool.not_eq_true'] at ok
   exact QnU S H ho ok.1.1 ok.1.2 ok.2 h
  | _ => exact Bool.noConfusion ok
 | nilCheck y =>
  cases c with
  | nilc x =>
   exact Qqh S H ho ok h
  | _ => exact Bool.noConfusion ok
 | binOp op' t x' y' ty =>
  cases c with
  | bin op x y =>
   simp only [okOp,Bool.and_eq_true,beq_iff_eq,decide_eq_true_eq,bne_iff_ne,Bool.not_eq_true'] at ok
   obtain ⟨⟨rfl,hx⟩,hy⟩:=ok
   simp only [res] at h
   obtain ⟨h1,rfl⟩:=Vp h
   exact g_bin S H ho hx hy h1
  | binb op x y =>
   simp only [okOp,Bool.and_eq_true,beq_iff_eq,decide_eq_true_eq,bne_iff_ne,Bool.not_eq_true'] at ok
   obtain ⟨⟨⟨rfl,hx⟩,hy⟩,ht⟩:=ok
   simp only [res] at h
   obtain ⟨h1,rfl⟩:=Vp h
   exact QpR S H ho hx hy (Qfp ht) h1
  | isnil neg x =>
   simp only [okOp,Bool.and_eq_true,beq_iff_eq] at ok
   obtain ⟨⟨⟨rfl,hx⟩,hy⟩,ht⟩:=ok
   obtain ⟨ms,ht⟩:=Qfz ht
   have hy:=QfZ hy
   subst hy
   exact Qof S H ho hx hσ ht h
  | eqs neg lay x y =>
   simp only [okOp,Bool.and_eq_true,beq_iff_eq,decide_eq_true_eq,bne_iff_ne,Bool.not_eq_true'] at ok
   obtain ⟨⟨⟨⟨⟨rfl,hx⟩,hy⟩,hl⟩,hg⟩,hb⟩:=ok
   exact g_eqs S H ho hx hy hl hg hb h
  | sop o' xs =>
   simp only [okOp] at ok
   split at ok
   all_goals first|(cases ok;done)|skip
   all_goals first|(rename_i heq;cases heq;done)|skip
   rename_i op x y heq
   cases heq
   simp only [Bool.and_eq_true,beq_iff_eq] at ok
   obtain ⟨⟨rfl,hx⟩,hy⟩:=ok
   simp only [res,List.map] at h
   obtain ⟨h1,rfl⟩:=Vp h
   exact Qqa S H ho hx hy h1
  | _ => exact Bool.noConfusion ok
 | unOp op' t y =>
  cases c with
  | un op x =>
   simp only [okOp,Bool.and_eq_true,beq_iff_eq,decide_eq_true_eq,bne_iff_ne,Bool.not_eq_true'] at ok
   obtain ⟨rfl,hx⟩:=ok
   simp only [res] at h
   obtain ⟨h1,rfl⟩:=Vp h
   exact g_un S H ho hx h1
  | _ => exact Bool.noConfusion ok
 | convert s t y =>
  cases c with
  | b2s x =>
   simp only [okOp,Bool.and_eq_true] at ok
   obtain ⟨⟨hx,hs⟩,ht⟩:=ok
   obtain ⟨e,hs,he⟩:=Jj hs
   exact g_b2s S H ho hx hs he (V4 ht) h
  | s2b own x =>
   simp only [okOp,Bool.and_eq_true] at ok
   obtain ⟨⟨hx,hs⟩,ht⟩:=ok
   obtain ⟨e,ht,he⟩:=Jj ht
   exact g_s2b S H ho hx (V4 hs) ht he h
  | mark x =>
   simp only [okOp,Bool.and_eq_true,beq_iff_eq] at ok
   obtain ⟨⟨hx,hst⟩,hs⟩:=ok
   obtain ⟨e,hs,he⟩:=Jj hs
   exact Qp2 S H ho hx hst hs he h
  | conv k x =>
   simp only [okOp,Bool.and_eq_true,beq_iff_eq,decide_eq_true_eq,bne_iff_ne,Bool.not_eq_true'] at ok
   obtain ⟨⟨hx,hs⟩,ht⟩:=ok
   obtain ⟨ks,hks⟩:=Option.isSome_iff_exists.1 hs
   simp only [res] at h
   obtain ⟨h1,rfl⟩:=Vp h
   exact Qpb S H ho hx (Y8 hks) (Y8 ht) h1
  | sop o' xs =>
   simp only [okOp] at ok
   split at ok
   all_goals first|(cases ok;done)|skip
   all_goals first|(rename_i heq;cases heq;done)|skip
   all_goals
    rename_i heq
    cases heq
    simp only [Bool.and_eq_true,beq_iff_eq] at ok
    obtain ⟨⟨hx,hs⟩,ht⟩:=ok
    simp only [res,List.map] at h
    obtain ⟨h1,rfl⟩:=Vp h
    first
     | exact g_ff S H ho hx hs (Qdc ht) h1
     | exact g_fi S H ho hx hs (Y8 ht) h1
     | exact g_itf S H ho hx hs (Qdc ht) h1
  | _ => exact Bool.noConfusion ok
 | range t y =>
  cases c with
  | srng x =>
   simp only [okOp,Bool.and_eq_true] at ok
   exact QqB S H ho ok.1 (V4 ok.2) h
  | _ => exact Bool.noConfusion ok
 | next y str =>
  cases c with
  | snxt x =>
   simp only [okOp,Bool.and_eq_true] at ok
   obtain ⟨hx,rfl⟩:=ok
   exact Qqo S H ho hx h
  | _ => exact Bool.noConfusion ok
 | sliceToArrayPointer t y =>
  cases c with
  | arrp n x =>
   simp only [okOp,Bool.and_eq_true,beq_iff_eq,decide_eq_true_eq,bne_iff_ne,Bool.not_eq_true'] at ok
   obtain ⟨hx,ok⟩:=ok
   split at ok
   ·rename_i m e he
    simp only [beq_iff_eq] at ok
    subst ok
    exact QpL S H ho hx (Y2 he) h
   ·cases ok
  | _ => exact Bool.noConfusion ok
 | makeFunc f first cap =>
  cases c with
  | mkbm g xs =>
   simp only [okOp,Bool.and_eq_true,beq_iff_eq] at ok
   obtain ⟨⟨hf,hcap⟩,hx⟩:=ok
   split at hf
   ·simp only [beq_iff_eq] at hf
    subst hf
    have hfe:cap = #[]:=by simpa using hcap
    subst hfe
    simp only [res,Option.some.injEq,Prod.mk.injEq] at h
    obtain ⟨rfl,rfl⟩:=h
    exact QqH S H ho hx
   ·cases hf
  | mkfn g xs =>
   simp only [okOp,Bool.and_eq_true,beq_iff_eq,decide_eq_true_eq,bne_iff_ne,Bool.not_eq_true'] at ok
   obtain ⟨⟨hf,hfirst⟩,hx⟩:=ok
   split at hf
   ·simp only [beq_iff_eq] at hf
    subst hf
    have hfe:first = #[]:=by simpa using hfirst
    subst hfe
    simp only [res,Option.some.injEq,Prod.mk.injEq] at h
    obtain ⟨rfl,rfl⟩:=h
    exact Qpn S H ho hx
   ·cases hf
  | _ => exact Bool.noConfusion ok
 | makeMap t r =>
  cases c with
  | mkmap  =>
   simp only [okOp,Option.isNone_iff_eq_none] at ok
   subst ok
   exact Qob S ho h
  | _ => exact Bool.noConfusion ok
 | makeSlice t l n =>
  cases c with
  | mksl k g z bytes len cap =>
   simp only [okOp,Bool.and_eq_true,beq_iff_eq,decide_eq_true_eq,bne_iff_ne,Bool.not_eq_true'] at ok
   obtain ⟨⟨h1,h2⟩,ok⟩:=ok
   split at ok
   ·rename_i el hel
    simp only [Bool.and_eq_true,beq_iff_eq] at ok
    exact Qqs S H ho h1 h2 (Vc hel) ok.1.1 ok.1.2 ok.2 h
   ·cases ok
  | _ => exact Bool.noConfusion ok
 | slice t y lo' hi' mx =>
  simp only [okOp,Bool.and_eq_true,Option.isNone_iff_eq_none] at ok
  obtain ⟨rfl,ok⟩:=ok
  cases c with
  | slice k x lo hi =>
   simp only [Bool.and_eq_true] at ok
   obtain ⟨⟨⟨hx,hl⟩,hh⟩,ok⟩:=ok
   split at ok
   ·rename_i el hel
    simp only [beq_iff_eq] at ok
    exact QoB S H ho hx hl hh (Vc hel) ok h
   ·cases ok
  | slstr x lo hi =>
   simp only [Bool.and_eq_true] at ok
   obtain ⟨⟨⟨hx,hl⟩,hh⟩,ok⟩:=ok
   exact QnR S H ho hx hl hh (V4 ok) h
  | arrsl n x =>
   simp only [Bool.and_eq_true,Option.isNone_iff_eq_none] at ok
   obtain ⟨⟨⟨hx,rfl⟩,rfl⟩,ok⟩:=ok
   split at ok
   ·rename_i m el hel
    simp only [Bool.and_eq_true,beq_iff_eq] at ok
    obtain ⟨rfl,hk⟩:=ok
    exact QoE S H ho hx (Y2 hel) hk h
   ·cases ok
  | _ => exact Bool.noConfusion ok
 | fieldAddr t y f =>
  cases c with
  | faddr off x =>
   simp only [okOp,Bool.and_eq_true,beq_iff_eq,decide_eq_true_eq,bne_iff_ne,Bool.not_eq_true'] at ok
   obtain ⟨hx,ok⟩:=ok
   split at ok
   ·rename_i fd hfd
    obtain ⟨fs,hu,hf⟩:=Qbs hfd
    simp only [Bool.and_eq_true,beq_iff_eq] at ok
    obtain ⟨hoff,ok⟩:=ok
    split at ok
    ·rename_i n hn
     exact QoX S H ho hx hu hf hoff hn (by simpa using ok) h
    ·cases ok
   ·cases ok
  | _ => exact Bool.noConfusion ok
 | field t y f =>
  cases c with
  | field off g x =>
   simp only [okOp,Bool.and_eq_true,beq_iff_eq,decide_eq_true_eq,bne_iff_ne,Bool.not_eq_true'] at ok
   obtain ⟨hx,ok⟩:=ok
   split at ok
   ·rename_i fd hfd
    obtain ⟨fs,hu,hf⟩:=Qbs hfd
    simp only [Bool.and_eq_true,beq_iff_eq] at ok
    exact Qnj S H ho hx hu hf ok.1 ok.2 h
   ·cases ok
  | _ => exact Bool.noConfusion ok
 | indexAddr t y i' =>
  cases c with
  | iaddr k x i =>
   simp only [okOp,Bool.and_eq_true,beq_iff_eq,decide_eq_true_eq,bne_iff_ne,Bool.not_eq_true'] at ok
   obtain ⟨⟨hx,hi⟩,ok⟩:=ok
   split at ok
   ·rename_i el hel
    simp only [beq_iff_eq] at ok
    exact QnP S H ho hx hi (Vc hel) ok h
   ·cases ok
  | iaddra n k x i =>
   simp only [okOp,Bool.and_eq_true,beq_iff_eq,decide_eq_true_eq,bne_iff_ne,Bool.not_eq_true'] at ok
   obtain ⟨⟨hx,hi⟩,ok⟩:=ok
   split at ok
   ·rename_i m el hel
    simp only [Bool.and_eq_true,beq_iff_eq] at ok
    obtain ⟨rfl,hk⟩:=ok
    exact Qml S H ho hx hi (Y2 hel) hk h
   ·cases ok
  | _ => exact Bool.noConfusion ok
 | index t y i' =>
  cases c with
  | idxs x i =>
   simp only [okOp,Bool.and_eq_true,beq_iff_eq,decide_eq_true_eq,bne_iff_ne,Bool.not_eq_true'] at ok
   exact QpN S H ho ok.1.1 ok.1.2 (V4 ok.2) h
  | idxa n k g x i =>
   simp only [okOp,Bool.and_eq_true,beq_iff_eq,decide_eq_true_eq,bne_iff_ne,Bool.not_eq_true'] at ok
   obtain ⟨⟨hx,hi⟩,ok⟩:=ok
   split at ok
   ·rename_i m el hel
    simp only [Bool.and_eq_true,beq_iff_eq] at ok
    obtain ⟨⟨rfl,hk⟩,hg⟩:=ok
    exact Qp3 S H ho hx hi (Y2 hel) hk hg h
   ·cases ok
  | _ => exact Bool.noConfusion ok
 | lookup t m' key' ok' =>
  cases c with
  | look sk z ok2 m key =>
   simp only [okOp,Bool.and_eq_true,beq_iff_eq,decide_eq_true_eq,bne_iff_ne,Bool.not_eq_true'] at ok
   obtain ⟨⟨⟨rfl,hm⟩,hk⟩,ok⟩:=ok
   split at ok
   ·rename_i kt et hmt
    simp only [Bool.and_eq_true] at ok
    exact Qqi S H ho hm hk (QaG hmt) ok.1 ok.2 h
   ·cases ok
  | _ => exact Bool.noConfusion ok
 | mapUpdate t m' key' v' =>
  cases c with
  | mupd sk m key v =>
   simp only [okOp,Bool.and_eq_true,beq_iff_eq,decide_eq_true_eq,bne_iff_ne,Bool.not_eq_true'] at ok
   obtain ⟨⟨⟨hm,hk⟩,hv⟩,ok⟩:=ok
   split at ok
   ·rename_i kt et hmt
    exact QiY S H (.inl ho) hm hk hv (QaG hmt) ok h
   ·cases ok
  | _ => exact Bool.noConfusion ok
 | insert t m' key' v' =>
  cases c with
  | mupd sk m key v =>
   simp only [okOp,Bool.and_eq_true,beq_iff_eq,decide_eq_true_eq,bne_iff_ne,Bool.not_eq_true'] at ok
   obtain ⟨⟨⟨hm,hk⟩,hv⟩,ok⟩:=ok
   split at ok
   ·rename_i kt et hmt
    exact QiY S H (.inr ho) hm hk hv (QaG hmt) ok h
   ·cases ok
  | _ => exact Bool.noConfusion ok
 | extract y i' =>
  cases c with
  | ext i x =>
   simp only [okOp,Bool.and_eq_true,beq_iff_eq,decide_eq_true_eq,bne_iff_ne,Bool.not_eq_true'] at ok
   obtain ⟨rfl,hx⟩:=ok
   exact g_ext S H ho hx h
  | _ => exact Bool.noConfusion ok
 | call k =>
  obtain ⟨callee,args,ats⟩:=k
  simp only [okOp,YK] at ok
  split at ok
  ·rename_i x
   split at ok
   ·rename_i y t hy ht
    simp only [Bool.and_eq_true] at ok
    have hy':=JG hy
    subst hy'
    obtain ⟨el,hel⟩:=Option.isSome_iff_exists.1 ok.2
    exact g_len S H ho ok.1 ht (Vc hel) h
   ·cases ok
  ·rename_i x
   split at ok
   ·rename_i y t hy ht
    simp only [Bool.and_eq_true] at ok
    have hy':=JG hy
    subst hy'
    exact QqK S H ho ok.1 ht (V4 ok.2) h
   ·cases ok
  ·rename_i n bytes x y
   split at ok
   ·rename_i x' y' t t1 hy ht ht1
    have hy':=J3 hy
    subst hy'
    simp only [Bool.and_eq_true] at ok
    obtain ⟨⟨⟨hx,hy⟩,hni⟩,ok⟩:=ok
    obtain ⟨d,hd,hdi⟩:=Qd8 hni
    split at ok
    ·rename_i el hel
     simp only [Bool.and_eq_true,beq_iff_eq] at ok
     obtain ⟨⟨hk,hby⟩,ok⟩:=ok
     split at ok
     ·rename_i zv hzv
      simp only [Bool.and_eq_true,beq_iff_eq,Bool.or_eq_true] at ok
      obtain ⟨⟨h1,h2⟩,h3⟩:=ok
      cases hag:aggV zv with
      | true =>
       cases zv <;> simp [aggV] at hag
       rename_i cs
       refine Qex S H ho hx hy ht ht1 (Vc hel) hd hdi hk hby (g:=some cs.toList.length) (zz:=cs.toList) ?_ (by simpa [Value.cells] using h2) h
       unfold okZ
       rw [hzv]
       simp only [Bool.and_eq_true,beq_iff_eq,and_true]
       simpa [Value.cells] using h1
      | false =>
       refine Qex S H ho hx hy ht ht1 (Vc hel) hd hdi hk hby (g:=none) (zz:=zv.cells.toList) ?_ (by simpa using h2) h
       unfold okZ
       rw [hzv]
       have:zv.cells.toList = [zv]:=by cases zv <;> first|rfl|(simp [aggV] at hag)
       rw [this] at h1 ⊢
       exact h1
     ·cases ok
    ·cases ok
   ·cases ok
  ·rename_i n x y
   split at ok
   ·rename_i x' y' t hy ht
    have hy':=J3 hy
    subst hy'
    simp only [Bool.and_eq_true] at ok
    obtain ⟨⟨hx,hy⟩,ok⟩:=ok
    split at ok
    ·rename_i el hel
     simp only [beq_iff_eq] at ok
     exact Qqj S H ho hx hy ht (Vc hel) ok h
    ·cases ok
   ·cases ok
  ·rename_i x
   split at ok
   ·rename_i y t hy ht
    simp only [Bool.and_eq_true] at ok
    have hy':=JG hy
    subst hy'
    obtain ⟨el,hel⟩:=Option.isSome_iff_exists.1 ok.2
    exact QpS S H ho ok.1 ht (Vc hel) h
   ·cases ok
  ·rename_i n g z bytes x y
   split at ok
   ·rename_i x' y' t t1 hy ht ht1
    have hy':=J3 hy
    subst hy'
    simp only [Bool.and_eq_true] at ok
    obtain ⟨⟨⟨hx,hy⟩,hni⟩,ok⟩:=ok
    obtain ⟨kk,hkk⟩:=Option.isSome_iff_exists.1 hni
    split at ok
    ·rename_i el hel
     simp only [Bool.and_eq_true,beq_iff_eq] at ok
     exact QqI S H ho hx hy ht ht1 (Vc hel) (Y8 hkk) ok.1.1 ok.1.2 ok.2 h
    ·cases ok
   ·cases ok
  ·rename_i x xs
   exact g_max S H ho ok h
  ·rename_i x xs
   exact g_min S H ho ok h
  ·cases ok
 | _ => exact Bool.noConfusion ok
end
end Go.Nac
namespace Go.Nac
variable [Env]
def COp.opnds:COp → List CX
 | .bad => []
 | .mov x => [x]
 | .onil _ => []
 | .pick c a b => [c,a,b]
 | .alloc _ _ => []
 | .box _ _ x => [x]
 | .build _ ps => ps.map (·.2.2)
 | .bsl _ _ xs => xs
 | .load _ x => [x]
 | .store _ a v => [a,v]
 | .nilc x => [x]
 | .bin _ x y => [x,y]
 | .binb _ x y => [x,y]
 | .eqs _ _ x y => [x,y]
 | .un _ x => [x]
 | .conv _ x => [x]
 | .arrp _ x => [x]
 | .mkfn _ xs => xs
 | .mkmap => []
 | .mksl _ _ _ _ a b => [a,b]
 | .slice _ x lo hi => x :: (lo.toList ++ hi.toList)
 | .slstr x lo hi => x :: (lo.toList ++ hi.toList)
 | .faddr _ x => [x]
 | .field _ _ x => [x]
 | .iaddr _ x i => [x,i]
 | .iaddra _ _ x i => [x,i]
 | .idxs x i => [x,i]
 | .idxa _ _ _ x i => [x,i]
 | .look _ _ _ m k => [m,k]
 | .mupd _ m k v => [m,k,v]
 | .ext _ x => [x]
 | .len x => [x]
 | .lens x => [x]
 | .append _ _ x y => [x,y]
 | .copy _ x y => [x,y]
 | .capn x => [x]
 | .appz _ _ _ _ x n => [x,n]
 | .max x xs => x :: xs
 | .min x xs => x :: xs
 | .call _ f xs => (match f with | .inl x => [x] | .inr _ => []) ++ xs
 | .fz c => c.opnds
 | .sop _ xs => xs
 | .srng x => [x]
 | .snxt x => [x]
 | .arrsl _ x => [x]
 | .isnil _ x => [x]
 | .b2s x => [x]
 | .s2b _ x => [x]
 | .mark x => [x]
 | .mkbm _ xs => xs
 | .pcall f xs => (match f with | .inl x => [x] | .inr _ => []) ++ xs
 | .fcall f xs => f :: xs
def COp.cls:COp → Nat
 | .mov _ | .pick .. | .build .. | .bin .. | .binb .. | .eqs .. | .un .. | .conv .. | .mkfn .. | .slstr .. | .field .. | .idxs .. | .idxa .. | .ext .. | .len _ | .lens _ | .max .. | .min .. | .bad | .sop .. | .arrsl .. | .isnil .. | .mkbm .. | .pcall .. => 0
 | .s2b own _ => if own then 2 else 0
 | .b2s _ => 1
 | .box own _ _ => if own then 2 else 1
 | .bsl own _ _ => if own then 2 else 1
 | .load .. | .nilc _ | .arrp .. | .slice .. | .faddr .. | .iaddr .. | .iaddra .. | .look .. => 1
 | .call loud _ _ => if loud then 2 else 1
 | .fz _ => 2
 | _ => 2
theorem VP {ρ ρ':CX → PV} {xs:List CX} (h:∀ x ∈ xs,ρ x = ρ' x):xs.map ρ = xs.map ρ':=List.map_congr_left h
theorem Y9 {ρ ρ':CX → PV} {x:Option CX} (h:∀ y ∈ x.toList,ρ y = ρ' y):x.map ρ = x.map ρ':=by
 cases x with
 | none => rfl
 | some y => simp [h y (by simp)]
theorem Qdu {M:List Blk} {ρ ρ':CX → PV} (c:COp) (h:∀ x ∈ c.opnds,ρ x = ρ' x):res M ρ c = res M ρ' c:=by
  cases c
  case build z ps =>
    have:ps.map (fun p => (p.1,p.2.1,ρ p.2.2)) = ps.map (fun p => (p.1,p.2.1,ρ' p.2.2)):=List.map_congr_left fun p hp => by
      rw [h p.2.2 (List.mem_map.2 ⟨p,hp,rfl⟩)]
    simp only [res,this]
  case bsl own k xs =>
    have h1:xs.map ρ = xs.map ρ':=VP h
    have h2:xs.map (fun x => view M (ρ x)) = xs.map (fun x => view M (ρ' x)):=List.map_congr_left fun x hx => by rw [h x hx]
    simp only [res,h1,h2]
  case mkfn f xs =>
    have hx:=VP (ρ:=ρ) (ρ':=ρ') (xs:=xs) h
    simp only [res,hx]
  case slice k x lo hi =>
    have h1:=h x (by simp [COp.opnds])
    have h2:=Y9 (ρ:=ρ) (ρ':=ρ') (x:=lo) fun y hy => h y (by simp only [COp.opnds,List.mem_cons,List.mem_append];exact .inr (.inl hy))
    have h3:=Y9 (ρ:=ρ) (ρ':=ρ') (x:=hi) fun y hy => h y (by simp only [COp.opnds,List.mem_cons,List.mem_append];exact .inr (.inr hy))
    simp only [res,h1,h2,h3]
  case slstr x lo hi =>
    have h1:=h x (by simp [COp.opnds])
    have h2:=Y9 (ρ:=ρ) (ρ':=ρ') (x:=lo) fun y hy => h y (by simp only [COp.opnds,List.mem_cons,List.mem_append];exact .inr (.inl hy))
    have h3:=Y9 (ρ:=ρ) (ρ':=ρ') (x:=hi) fun y hy => h y (by simp only [COp.opnds,List.mem_cons,List.mem_append];exact .inr (.inr hy))
    simp only [res,h1,h2,h3]
  case max x xs =>
    have h1:=h x (by simp [COp.opnds])
    have h2:=VP (ρ:=ρ) (ρ':=ρ') (xs:=xs) fun y hy => h y (by simp [COp.opnds,hy])
    simp only [res,h1,h2]
  case min x xs =>
    have h1:=h x (by simp [COp.opnds])
    have h2:=VP (ρ:=ρ) (ρ':=ρ') (xs:=xs) fun y hy => h y (by simp [COp.opnds,hy])
    simp only [res,h1,h2]
  case sop o xs =>
    have hx:=VP (ρ:=ρ) (ρ':=ρ') (xs:=xs) h
    simp only [res,hx]
  case mkbm f xs =>
    have hx:=VP (ρ:=ρ) (ρ':=ρ') (xs:=xs) h
    simp only [res,hx]
  case call => rfl
  case pcall => rfl
  case fcall => rfl
  case fz => rfl
  all_goals (first
    | rfl
    | (simp only [COp.opnds,List.mem_cons,List.not_mem_nil,or_false,forall_eq_or_imp,forall_eq] at h
       first
         | (simp only [res,h];done)
         | (obtain ⟨h1,h2,h3⟩:=h;simp only [res,h1,h2,h3];done)
         | (obtain ⟨h1,h2⟩:=h;simp only [res,h1,h2];done)))
theorem Yi {C:CallR} {M M':List Blk} {ρ ρ':CX → PV} {v:PV} (c:COp) (h:∀ x ∈ c.opnds,ρ x = ρ' x) (k:Res C c M ρ v M'):Res C c M ρ' v M':=by
 cases c
 case call loud f xs =>
  refine ⟨k.1,?_⟩
  have k2:=k.2
  have hx:xs.map (argV M ρ) = xs.map (argV M ρ'):=List.map_congr_left fun x hx => by
   have:=h x (by simp [COp.opnds,hx])
   cases x <;> simp only [argV,this]
  cases f with
  | inr g => simp only at k2 ⊢;rw [← hx];exact k2
  | inl y =>
   have hy:=h y (by simp [COp.opnds])
   simp only at k2 ⊢
   rw [hx,hy] at k2
   exact k2
 case fcall f xs =>
  have hx:xs.map (argV [] ρ) = xs.map (argV [] ρ'):=List.map_congr_left fun x hx => by
   have:=h x (by simp [COp.opnds,hx])
   cases x <;> simp only [argV,this]
  have hf:ρ f = ρ' f:=h f (by simp [COp.opnds])
  obtain ⟨i,b,h1,h2,h3,h4⟩:=k
  exact ⟨i,b,hf ▸ h1,h2,hx ▸ h3,fun N h5 h6 => by have h7:=h4 N h5 h6;rw [hf,hx] at h7;exact h7⟩
 case pcall f xs =>
  have hx:xs.map (argV [] ρ) = xs.map (argV [] ρ'):=List.map_congr_left fun x hx => by
   have:=h x (by simp [COp.opnds,hx])
   cases x <;> simp only [argV,this]
  refine ⟨k.1,by rw [← hx];exact k.2.1,fun N => ?_⟩
  have k2:=k.2.2 N
  cases f with
  | inr g => simp only at k2 ⊢;rw [← hx];exact k2
  | inl y =>
   have hy:=h y (by simp [COp.opnds])
   simp only at k2 ⊢
   rw [hx,hy] at k2
   exact k2
 case fz c =>
  obtain ⟨v0,M1,h1,h2⟩:=k
  exact ⟨v0,M1,(Qdu c h).symm.trans h1,h2⟩
 all_goals exact (Qdu _ h).symm.trans k
theorem Qfw {M M':List Blk} {ρ:CX → PV} {v:PV} {c:COp} (hc:c.cls = 0) (h:res M ρ c = some (v,M')):M' = M ∧ ∀ M2,res M2 ρ c = some (v,M2):=by
 have key:∀ {f:List Blk → Option (PV × List Blk)} (x:Option PV),(∀ M,f M = x.map (·,M)) → f M = some (v,M') → M' = M ∧ ∀ M2,f M2 = some (v,M2):=by
  intro f x hf hM
  rw [hf] at hM
  obtain ⟨rfl,rfl⟩:=Vp hM
  exact ⟨rfl,fun M2 => by rw [hf];rfl⟩
 cases c
 case mov x => exact key (f:=fun M => res M ρ (.mov x)) (some (ρ x)) (fun _ => rfl) h
 case pick a b c => exact key (f:=fun M => res M ρ (.pick a b c)) _ (fun _ => rfl) h
 case build z ps => exact key (f:=fun M => res M ρ (.build z ps)) ((QT (z.map .s) (ps.map fun p => (p.1,p.2.1,ρ p.2.2))).map .agg) (fun M => by simp only [res,Option.map_map];rfl) h
 case bin op x y => exact key (f:=fun M => res M ρ (.bin op x y)) _ (fun _ => rfl) h
 case binb op x y => exact key (f:=fun M => res M ρ (.binb op x y)) _ (fun _ => rfl) h
 case un op x => exact key (f:=fun M => res M ρ (.un op x)) _ (fun _ => rfl) h
 case conv op x => exact key (f:=fun M => res M ρ (.conv op x)) _ (fun _ => rfl) h
 case mkfn f xs => exact key (f:=fun M => res M ρ (.mkfn f xs)) (some _) (fun _ => rfl) h
 case len x => exact key (f:=fun M => res M ρ (.len x)) ((lenOf (ρ x)).map fun (n:Nat) => .I (n:Int)) (fun M => by simp only [res,Option.map_map];rfl) h
 case max x xs => exact key (f:=fun M => res M ρ (.max x xs)) _ (fun _ => rfl) h
 case min x xs => exact key (f:=fun M => res M ρ (.min x xs)) _ (fun _ => rfl) h
 case sop o xs => exact key (f:=fun M => res M ρ (.sop o xs)) _ (fun _ => rfl) h
 case mkbm f xs => exact key (f:=fun M => res M ρ (.mkbm f xs)) (some _) (fun _ => rfl) h
 case isnil neg x =>
  refine key (f:=fun M => res M ρ (.isnil neg x)) (match ρ x with|.err => some (.B neg)|.s .nilIface => some (.B (!neg))|_ => none) (fun M => ?_) h
  simp only [res];split <;> split <;> simp_all
 case s2b own x =>
  simp only [COp.cls] at hc
  cases own
  ·refine key (f:=fun M => res M ρ (.s2b false x)) (match ρ x with|.s (.string b) => some (.fs (Qz b))|_ => none) (fun M => ?_) h
   simp only [res];split <;> split <;> simp_all
  ·cases hc
 case arrsl n x => exact key (f:=fun M => res M ρ (.arrsl n x)) _ (fun _ => rfl) h
 case lens x =>
  refine key (f:=fun M => res M ρ (.lens x)) (match ρ x with|.s (.string b) => some (.I (b.size:Int))|_ => none) (fun M => ?_) h
  simp only [res];split <;> split <;> simp_all
 case eqs neg lay x y =>
  refine key (f:=fun M => res M ρ (.eqs neg lay x y)) (match ρ x,ρ y with|.agg xs,.agg ys => (QC lay xs ys).map fun b => .B (if neg then !b else b)|_,_ => none) (fun M => ?_) h
  simp only [res];split <;> split <;> simp_all [Option.map_map,Function.comp_def]
 case slstr x lo hi =>
  refine key (f:=fun M => res M ρ (.slstr x lo hi)) (match ρ x with|.s (.string b) => (bounds b.size (lo.map ρ) (hi.map ρ)).map fun p => .s (.string (b.extract p.1 p.2))|_ => none) (fun M => ?_) h
  simp only [res];split <;> split <;> simp_all [Option.map_map,Function.comp_def]
 case field off g x =>
  refine key (f:=fun M => res M ρ (.field off g x)) (match ρ x with|.agg cs => mkPV g ((cs.drop off).take (g.getD 1))|_ => none) (fun M => ?_) h
  simp only [res];split <;> split <;> simp_all
 case idxs x i =>
  refine key (f:=fun M => res M ρ (.idxs x i)) (match ρ x,asNat (ρ i) with|.s (.string b),some n => (b[n]?).map fun c => .s (.int .u8 c.toNat)|_,_ => none) (fun M => ?_) h
  simp only [res];split <;> split <;> simp_all [Option.map_map,Function.comp_def]
 case idxa n k g x i =>
  refine key (f:=fun M => res M ρ (.idxa n k g x i)) (match ρ x,asNat (ρ i) with|.agg cs,some m => if m < n then mkPV g ((cs.drop (m * k)).take (g.getD 1)) else none|_,_ => none) (fun M => ?_) h
  simp only [res]
  generalize ρ x = vx
  generalize asNat (ρ i) = vn
  cases vn <;> cases vx <;> try rfl
  simp only
  split <;> rfl
 case ext i x =>
  refine key (f:=fun M => res M ρ (.ext i x)) (match ρ x with|.tup vs => vs[i]?|_ => none) (fun M => ?_) h
  simp only [res];split <;> split <;> simp_all
 case bad => simp [res] at h
 case pcall f xs => simp [res] at h
 case fcall f xs => simp [res] at h
 all_goals (simp only [COp.cls] at hc;first|(cases hc;done)|(split at hc <;> cases hc))
theorem QbS {M M':List Blk} {ρ:CX → PV} {v:PV} {c:COp} (hc:c.cls ≤ 1) (h:res M ρ c = some (v,M')):M' = M:=by
 by_cases h0:c.cls = 0
 ·exact (Qfw h0 h).1
 have h1:c.cls = 1:=by omega
 cases c
 case b2s x =>
  simp only [res] at h;split at h
  ·cases h
  ·simp only [Option.map_eq_some_iff,Prod.mk.injEq] at h
   obtain ⟨_,_,_,rfl⟩:=h
   rfl
 case s2b own x =>
  simp only [COp.cls] at h1
  cases own <;> cases h1
 case box own k x =>
  simp only [COp.cls] at h1
  cases own
  ·simp only [res] at h;split at h
   ·simp at h;exact h.2.symm
   ·cases h
  ·cases h1
 case bsl own k xs =>
  simp only [COp.cls] at h1
  cases own
  ·simp only [res] at h;split at h
   ·simp at h;exact h.2.symm
   ·cases h
  ·cases h1
 case load g x => exact (Vp h).2
 case nilc x =>
  simp only [res] at h;split at h
  ·simp at h;exact h.2.symm
  ·split at h
   ·simp at h;exact h.2.symm
   ·cases h
  ·simp at h;exact h.2.symm
  ·cases h
 case arrp n x =>
  simp only [res] at h;split at h
  ·split at h
   ·simp at h;exact h.2.symm
   ·cases h
  ·split at h
   ·cases hh:held M (ρ x) with
    | none => simp_all
    | some ys => simp_all
   ·cases h
  ·cases h
 case slice k x lo hi =>
  simp only [res] at h;split at h
  ·split at h
   ·cases hb:bounds _ (lo.map ρ) (hi.map ρ) with
    | none => rw [hb] at h;cases h
    | some p => rw [hb] at h;simp at h;exact h.2.symm
   ·cases h
  ·cases hb:bounds _ (lo.map ρ) (hi.map ρ) with
   | none => rw [hb] at h;cases h
   | some p => rw [hb] at h;simp at h;exact h.2.symm
  ·split at h
   ·cases hb:bounds _ (lo.map ρ) (hi.map ρ) with
    | none => rw [hb] at h;cases h
    | some p => rw [hb] at h;simp at h;exact h.2.symm
   ·cases h
  ·cases h
 case faddr off x =>
  simp only [res] at h;split at h
  ·split at h
   ·simp at h;exact h.2.symm
   ·cases h
  ·split at h
   ·simp at h;exact h.2.symm
   ·cases h
  ·cases h
 case iaddr k x i =>
  simp only [res] at h;split at h
  ·split at h
   ·split at h
    ·simp at h;exact h.2.symm
    ·cases h
   ·cases h
  ·split at h
   ·split at h
    ·split at h
     ·simp at h;exact h.2.symm
     ·cases h
    ·cases h
   ·cases h
  ·cases h
 case iaddra n k x i =>
  simp only [res] at h;split at h
  ·split at h
   ·simp at h;exact h.2.symm
   ·cases h
  ·split at h
   ·simp at h;exact h.2.symm
   ·cases h
  ·cases h
 case look sk z ok m key =>
  simp only [res] at h;split at h
  ·split at h
   ·split at h
    ·split at h
     ·simp at h;exact h.2.symm
     ·simp at h;exact h.2.symm
    ·cases h
   ·cases h
  ·cases h
 case call => cases h
 all_goals (simp only [COp.cls] at h1;cases h1)
theorem JT {C:CallR} {M M':List Blk} {ρ:CX → PV} {v:PV} {c:COp} (hc:c.cls = 0) (h:Res C c M ρ v M'):M' = M ∧ ∀ M2,Res C c M2 ρ v M2:=by
 cases c
 case call loud f xs => simp only [COp.cls] at hc;split at hc <;> cases hc
 case fz => simp [COp.cls] at hc
 case pcall f xs => exact ⟨h.1,fun M2 => ⟨rfl,h.2⟩⟩
 case fcall f xs => simp [COp.cls] at hc
 all_goals exact Qfw hc h
theorem JH {C:CallR} {M M':List Blk} {ρ:CX → PV} {v:PV} {c:COp} (hc:c.cls ≤ 1) (h:Res C c M ρ v M'):M' = M:=by
 cases c
 case call loud f xs =>
  cases loud
  ·exact h.1 rfl
  ·simp [COp.cls] at hc
 case fz => simp [COp.cls] at hc
 case pcall f xs => exact h.1
 case fcall f xs => simp [COp.cls] at hc
 all_goals exact QbS hc h
end Go.Nac
namespace Go.Nac
variable [Env]
def QH (C:CallR) (o:COper) (M:List Blk) (t:List PV) (M':List Blk) (t':List PV):Prop :=
 match o.guard with
 | none => ∃ v,Res C o.op M (ev t) v M' ∧ t' = put t o.dst v
 | some (g,want) => ∃ b,wanted (t.getD g .top) want = some b ∧
   (if b = true then ∃ v,Res C o.op M (ev t) v M' ∧ t' = put t o.dst v else M' = M ∧ t' = put t o.dst unit)
def runL (C:CallR) (cs:List COper):List Nat → List Blk → List PV → List Blk → List PV → Prop
 | [],M,t,M',t' => M' = M ∧ t' = t
 | i :: r,M,t,M',t' => ∃ o M1 t1,cs[i]? = some o ∧ QH C o M t M1 t1 ∧ runL C cs r M1 t1 M' t'
theorem Qkm {C:CallR} {o:COper} {K:List Blk → List PV → Prop} {M:List Blk} {t:List PV} (h:wpOp C o K M t):∃ M' t',QH C o M t M' t' ∧ K M' t':=by
 cases hg:o.guard with
 | none =>
  rw [wpOp,hg] at h
  obtain ⟨v,M',h1,h2⟩:=h
  refine ⟨M',_,?_,h2⟩
  rw [QH,hg]
  exact ⟨v,h1,rfl⟩
 | some p =>
  obtain ⟨g,want⟩:=p
  rw [wpOp,hg] at h
  obtain ⟨b,h0,h⟩:=h
  by_cases hb:b = true
  ·rw [if_pos hb] at h
   obtain ⟨v,M',h1,h2⟩:=h
   refine ⟨M',_,?_,h2⟩
   rw [QH,hg]
   exact ⟨b,h0,by rw [if_pos hb];exact ⟨v,h1,rfl⟩⟩
  ·rw [if_neg hb] at h
   refine ⟨M,_,?_,h⟩
   rw [QH,hg]
   exact ⟨b,h0,by rw [if_neg hb];exact ⟨rfl,rfl⟩⟩
theorem Qjz {C:CallR} {K:List Blk → List PV → Prop} (pre:List COper):∀ (os:List COper) {M:List Blk} {t:List PV},wpOps C os K M t →
  ∃ M' t',runL C (pre ++ os) (List.range' pre.length os.length) M t M' t' ∧ K M' t':=by
 intro os
 induction os generalizing pre with
 | nil => exact fun h => ⟨_,_,⟨rfl,rfl⟩,h⟩
 | cons o os ih =>
  intro M t h
  obtain ⟨M1,t1,h1,h2⟩:=Qkm h
  obtain ⟨M2,t2,h3,h4⟩:=ih (pre ++ [o]) h2
  refine ⟨M2,t2,?_,h4⟩
  simp only [List.length_append,List.length_cons,List.length_nil,List.append_assoc,List.cons_append,List.nil_append,List.range'_succ] at h3 ⊢
  exact ⟨o,M1,t1,by simp,h1,h3⟩
def COper.looks (o:COper):List Nat :=
 (o.op.opnds.filterMap fun|.t n => some n|_ => none) ++ (match o.guard with|some (g,_) => [g]|none => [])
def indep (a b:COper):Bool :=
 (match a.dst with|some d => !b.looks.contains d && b.dst != some d|none => true) &&
 (match b.dst with|some d => !a.looks.contains d|none => true) &&
 (a.op.cls == 0 || b.op.cls == 0 || (decide (a.op.cls ≤ 1) && decide (b.op.cls ≤ 1)))
theorem Jm {t:List PV} {dst:Option Nat} {v:PV} {o:COper} (h:∀ d,dst = some d → d ∉ o.looks):∀ x ∈ o.op.opnds,ev (put t dst v) x = ev t x:=by
 intro x hx
 cases dst with
 | none => rfl
 | some d =>
  cases x with
  | t n =>
   have hne:d ≠ n:=fun e => h d rfl (by simp only [COper.looks,List.mem_append,List.mem_filterMap];exact .inl ⟨.t n,hx,by simp [e]⟩)
   simp [ev,put,List.getD,List.getElem?_set_ne hne]
  | k v => rfl
  | f g => rfl
  | g g cs => rfl
theorem Qdf {t:List PV} {dst:Option Nat} {v:PV} {o:COper} (h:∀ d,dst = some d → d ∉ o.looks) {g:Nat} {want:Bool} (hg:o.guard = some (g,want)) :
  (put t dst v).getD g .top = t.getD g .top:=by
 cases dst with
 | none => rfl
 | some d =>
  have hne:d ≠ g:=fun e => h d rfl (by simp [COper.looks,hg,e])
  simp [put,List.getD,List.getElem?_set_ne hne]
theorem Zh {t:List PV} {a b:Option Nat} {v u:PV} (h:∀ d,a = some d → b ≠ some d):put (put t a v) b u = put (put t b u) a v:=by
 cases a with
 | none => rfl
 | some d =>
  cases b with
  | none => rfl
  | some e =>
   have:d ≠ e:=fun x => h d rfl (by rw [x])
   simp only [put]
   exact List.set_comm _ _ this
theorem QhX {C:CallR} {o:COper} {M M':List Blk} {t t':List PV} {dst:Option Nat} {v:PV} (h:∀ d,dst = some d → d ∉ o.looks) (hd:∀ d,dst = some d → o.dst ≠ some d)
  (k:QH C o (M) (put t dst v) M' t'):∃ t1,QH C o M t M' t1 ∧ t' = put t1 dst v:=by
 unfold QH at *
 split at k
 ·obtain ⟨u,h1,rfl⟩:=k
  exact ⟨_,⟨u,Yi _ (Jm h) h1,rfl⟩,Zh hd⟩
 ·rename_i g want hg
  obtain ⟨b,h0,k⟩:=k
  rw [Qdf h hg] at h0
  split at k
  ·rename_i hb
   obtain ⟨u,h1,rfl⟩:=k
   exact ⟨_,⟨b,h0,by rw [if_pos hb];exact ⟨u,Yi _ (Jm h) h1,rfl⟩⟩,Zh hd⟩
  ·rename_i hb
   obtain ⟨rfl,rfl⟩:=k
   exact ⟨_,⟨b,h0,by rw [if_neg hb];exact ⟨rfl,rfl⟩⟩,Zh hd⟩
theorem QfG {C:CallR} {o:COper} {M M':List Blk} {t t1:List PV} {dst:Option Nat} {v:PV} (h:∀ d,dst = some d → d ∉ o.looks) (hd:∀ d,dst = some d → o.dst ≠ some d)
  (k:QH C o M t M' t1):QH C o M (put t dst v) M' (put t1 dst v):=by
 unfold QH at *
 split at k
 ·obtain ⟨u,h1,rfl⟩:=k
  exact ⟨u,Yi _ (fun x hx => (Jm h x hx).symm) h1,(Zh hd).symm⟩
 ·rename_i g want hg
  obtain ⟨b,h0,k⟩:=k
  refine ⟨b,by rw [Qdf h hg];exact h0,?_⟩
  split at k
  ·rename_i hb
   obtain ⟨u,h1,rfl⟩:=k
   rw [if_pos hb]
   exact ⟨u,Yi _ (fun x hx => (Jm h x hx).symm) h1,(Zh hd).symm⟩
  ·rename_i hb
   obtain ⟨rfl,rfl⟩:=k
   rw [if_neg hb]
   exact ⟨rfl,(Zh hd).symm⟩
theorem Qcv {C:CallR} {o:COper} {M M':List Blk} {t t':List PV} (k:QH C o M t M' t'):∃ v,t' = put t o.dst v:=by
 unfold QH at k
 split at k
 ·obtain ⟨u,_,rfl⟩:=k;exact ⟨_,rfl⟩
 ·obtain ⟨b,_,k⟩:=k
  split at k
  ·obtain ⟨u,_,rfl⟩:=k;exact ⟨_,rfl⟩
  ·exact ⟨_,k.2⟩
theorem Ji {C:CallR} {o:COper} {M M':List Blk} {t t':List PV} (hc:o.op.cls = 0) (k:QH C o M t M' t'):M' = M ∧ ∀ M2,QH C o M2 t M2 t':=by
 unfold QH at *
 split at k
 ·obtain ⟨u,h1,rfl⟩:=k
  obtain ⟨h2,h3⟩:=JT hc h1
  exact ⟨h2,fun M2 => ⟨u,h3 M2,rfl⟩⟩
 ·obtain ⟨b,h0,k⟩:=k
  split at k
  ·rename_i hb
   obtain ⟨u,h1,rfl⟩:=k
   obtain ⟨h2,h3⟩:=JT hc h1
   exact ⟨h2,fun M2 => ⟨b,h0,by rw [if_pos hb];exact ⟨u,h3 M2,rfl⟩⟩⟩
  ·rename_i hb
   exact ⟨k.1,fun M2 => ⟨b,h0,by rw [if_neg hb];exact ⟨rfl,k.2⟩⟩⟩
theorem Qbh {C:CallR} {o:COper} {M M':List Blk} {t t':List PV} (hc:o.op.cls ≤ 1) (k:QH C o M t M' t'):M' = M:=by
 unfold QH at k
 split at k
 ·obtain ⟨u,h1,rfl⟩:=k;exact JH hc h1
 ·obtain ⟨b,h0,k⟩:=k
  split at k
  ·obtain ⟨u,h1,rfl⟩:=k;exact JH hc h1
  ·exact k.1
theorem swap {C:CallR} {a b:COper} (hi:indep a b = true) {M M1 M2:List Blk} {t t1 t2:List PV} (hb:QH C b M t M1 t1) (ha:QH C a M1 t1 M2 t2) :
  ∃ M3 t3,QH C a M t M3 t3 ∧ QH C b M3 t3 M2 t2:=by
 simp only [indep,Bool.and_eq_true,Bool.or_eq_true,decide_eq_true_eq,beq_iff_eq] at hi
 obtain ⟨⟨i1,i2⟩,i3⟩:=hi
 have n1:∀ d,a.dst = some d → d ∉ b.looks ∧ b.dst ≠ some d:=by
  intro d hd;rw [hd] at i1;simp at i1;exact i1
 have n2:∀ d,b.dst = some d → d ∉ a.looks:=by
  intro d hd;rw [hd] at i2;simp at i2;exact i2
 have n3:∀ d,b.dst = some d → a.dst ≠ some d:=fun d hd ha => (n1 d ha).2 hd
 obtain ⟨v,rfl⟩:=Qcv hb
 obtain ⟨t3,ha',rfl⟩:=QhX n2 n3 ha
 obtain ⟨u,rfl⟩:=Qcv ha'
 have hb':QH C b M (put t a.dst u) M1 (put (put t b.dst v) a.dst u):=QfG (fun d hd => (n1 d hd).1) (fun d hd => (n1 d hd).2) hb
 rw [Zh n3] at hb'
 rcases i3 with (h0|h0)|⟨h1,h2⟩
 ·obtain ⟨rfl,hall⟩:=Ji h0 ha'
  exact ⟨M,_,hall M,hb'⟩
 ·obtain ⟨rfl,_⟩:=Ji h0 hb
  obtain ⟨_,hall⟩:=Ji h0 hb'
  exact ⟨M2,_,ha',hall M2⟩
 ·have e1:=Qbh h2 hb
  have e2:=Qbh h1 ha'
  subst e1;subst e2
  exact ⟨_,_,ha',hb'⟩
section
variable {σ:Type} {S:Nat → σ → σ → Prop} {I:Nat → Nat → Prop}
def runG (S:Nat → σ → σ → Prop):List Nat → σ → σ → Prop
 | [],s,s' => s' = s
 | i :: r,s,s' => ∃ s1,S i s s1 ∧ runG S r s1 s'
theorem pullG (hsw:∀ i j s s1 s2,I i j → S j s s1 → S i s1 s2 → ∃ s3,S i s s3 ∧ S j s3 s2) {i:Nat} (l2:List Nat):∀ (l1:List Nat) {s s':σ},runG S (l1 ++ i :: l2) s s' → (∀ j ∈ l1,I i j) → runG S (i :: (l1 ++ l2)) s s':=by
 intro l1
 induction l1 with
 | nil => exact fun h _ => h
 | cons j l1 ih =>
  intro s s' h hall
  obtain ⟨s1,h1,h2⟩:=h
  obtain ⟨s2,h3,h4⟩:=ih h2 fun k hk => hall k (by simp [hk])
  obtain ⟨s3,h5,h6⟩:=hsw i j _ _ _ (hall j (by simp)) h1 h3
  exact ⟨s3,h5,s2,h6,h4⟩
end
def Qcj (ms:List Nat) (o:Oper):Nat:=o.after.toList.foldl (fun m e => if Region.binds .any e then m ||| ((1 <<< e.on) ||| ms.getD e.on 0) else m) 0
def masks (ops:Array Oper):Nat → List Nat
 | 0 => []
 | k + 1 => let ms:=masks ops k;ms ++ [match ops[k]? with | some o => Qcj ms o | none => 0]
def Qcl (n:Nat) (ops:Array Oper) (ok:Nat → Nat → Bool):Bool :=
 let ms:=masks ops ops.size
 (List.range n).all fun i =>
  match ops[i]? with
  | some o => (o.after.all fun e => !Region.binds .any e || decide (e.on < i)) && (List.range i).all fun j => (ms.getD i 0).testBit j || ok i j
  | none => false
def QaZ (cs:List COper) (ops:Array Oper):Bool:=Qcl cs.length ops fun i j => match cs[i]?,cs[j]? with|some a,some b => indep a b|_,_ => false
theorem QaO (ops:Array Oper):∀ k,(masks ops k).length = k:=by
 intro k
 induction k with
 | zero => rfl
 | succ k ih => simp [masks,ih]
theorem QaF (ops:Array Oper):∀ (k i:Nat),i < k → (masks ops k).getD i 0 = match ops[i]? with|some o => Qcj (masks ops i) o|none => 0:=by
 intro k
 induction k with
 | zero => intro i h;omega
 | succ k ih =>
  intro i h
  by_cases e:i = k
  ·subst e
   simp [masks,List.getD,QaO]
  ·have hlt:i < k:=by omega
   rw [← ih i hlt]
   simp only [masks,List.getD]
   rw [List.getElem?_append_left (by rw [QaO];exact hlt)]
theorem Qh5 {ms:List Nat} {o:Oper} {j:Nat} (h:(Qcj ms o).testBit j = true):∃ e ∈ o.after,Region.binds .any e = true ∧ (e.on = j ∨ (ms.getD e.on 0).testBit j = true):=by
 unfold Qcj at h
 have key:∀ (l:List Edge) (m:Nat),(l.foldl (fun m e => if Region.binds .any e then m ||| ((1 <<< e.on) ||| ms.getD e.on 0) else m) m).testBit j = true →
   m.testBit j = true ∨ ∃ e ∈ l,Region.binds .any e = true ∧ (e.on = j ∨ (ms.getD e.on 0).testBit j = true):=by
  intro l
  induction l with
  | nil => exact fun m h => .inl h
  | cons e l ih =>
   intro m h
   rcases ih _ h with h|⟨e',h1,h2⟩
   ·simp only [] at h
    split at h
    ·rename_i hb
     rw [Nat.testBit_or,Nat.testBit_or,Bool.or_eq_true,Bool.or_eq_true] at h
     rcases h with h|h|h
     ·exact .inl h
     ·rw [Nat.one_shiftLeft,Nat.testBit_two_pow] at h
      exact .inr ⟨e,by simp,hb,.inl (by simpa using h)⟩
     ·exact .inr ⟨e,by simp,hb,.inr h⟩
    ·exact .inl h
   ·exact .inr ⟨e',by simp [h1],h2⟩
 rcases key _ 0 h with h|⟨e,h1,h2⟩
 ·simp at h
 ·exact ⟨e,by simpa using h1,h2⟩
theorem Qgb {ops:Array Oper} {S:Nat → Prop} (hS:∀ x o,S x → ops[x]? = some o → ∀ e ∈ o.after,Region.binds .any e = true → S e.on) (hlt:∀ x o,ops[x]? = some o → ∀ e ∈ o.after,Region.binds .any e = true → e.on < x) :
  ∀ (i:Nat) (o:Oper),ops[i]? = some o → (∀ e ∈ o.after,Region.binds .any e = true → S e.on) → ∀ j,((masks ops ops.size).getD i 0).testBit j = true → S j:=by
 intro i
 induction i using Nat.strongRecOn with
 | _ i ih =>
  intro o ho he j hj
  rw [QaF ops _ i (Array.getElem?_eq_some_iff.1 ho).1,ho] at hj
  obtain ⟨e,h1,h2,h3⟩:=Qh5 hj
  have hSe:=he e h1 h2
  have hl:=hlt i o ho e h1 h2
  rcases h3 with rfl|h3
  ·exact hSe
  ·have hlt2:e.on < ops.size:=by have:=(Array.getElem?_eq_some_iff.1 ho).1;omega
   have ho2:ops[e.on]? = some ops[e.on]:=Array.getElem?_eq_getElem hlt2
   refine ih e.on hl _ ho2 (fun e' h4 h5 => hS e.on _ hSe ho2 e' h4 h5) j ?_
   rw [QaF ops _ e.on hlt2,ho2]
   rwa [QaF ops _ e.on hl,ho2] at h3
theorem Qol {σ:Type} {S:Nat → σ → σ → Prop} {ops:Array Oper} {ok:Nat → Nat → Bool} (hok:Qcl ops.size ops ok = true)
  (hsw:∀ i j s s1 s2,ok i j = true → S j s s1 → S i s1 s2 → ∃ s3,S i s s3 ∧ S j s3 s2):∀ (fuel tn:Nat) (listed:Array Bool) (rem:List Nat) {s s':σ},
  rem.length = fuel → rem.Pairwise (· < ·) → (∀ i,i ∈ rem ↔ i < ops.size ∧ listed.getD i true = false) → listed.size = ops.size →
  (∀ x o,listed.getD x false = true → ops[x]? = some o → ∀ e ∈ o.after,Region.binds .any e = true → listed.getD e.on false = true) →
  runG S rem s s' → runG S (Region.linearise.go .any ops fuel tn listed []) s s':=by
 intro fuel
 induction fuel with
 | zero =>
  intro tn listed rem s s' hl _ _ _ _ h
  rw [List.length_eq_zero_iff.1 hl] at h
  simpa [Region.linearise.go] using h
 | succ fuel ih =>
  intro tn listed rem s s' hl hp hm hs hcl h
  have facts:∀ i,i < ops.size → ∃ o,ops[i]? = some o ∧ (∀ e ∈ o.after,Region.binds .any e = true → e.on < i) ∧
    ∀ j,j < i → ((masks ops ops.size).getD i 0).testBit j = true ∨ ok i j = true:=by
   intro i hi
   have:=List.all_eq_true.1 hok i (by simpa using hi)
   cases ho:ops[i]? with
   | none => rw [ho] at this;cases this
   | some o =>
    rw [ho] at this
    simp only [Bool.and_eq_true,Array.all_eq_true',Bool.or_eq_true,Bool.not_eq_true',decide_eq_true_eq,List.all_eq_true,List.mem_range] at this
    refine ⟨o,rfl,fun e he hb => ?_,fun j hj => this.2 j hj⟩
    rcases this.1 e he with h|h
    ·rw [hb] at h;cases h
    ·exact h
  have ready:∀ i,i ∈ Region.ready .any ops listed ↔ i ∈ rem ∧ ∃ o,ops[i]? = some o ∧ ∀ e ∈ o.after,Region.binds .any e = true → listed.getD e.on false = true:=by
   intro i
   rw [hm]
   simp only [Region.ready,List.mem_filter,List.mem_range,Bool.and_eq_true,Bool.not_eq_true',and_assoc]
   refine and_congr_right fun hi => and_congr_right fun _ => ?_
   obtain ⟨o,ho,_⟩:=facts i hi
   rw [ho]
   simp only [Option.map_some,Option.getD_some,Array.all_eq_true',Bool.or_eq_true,Bool.not_eq_true',Option.some.injEq,exists_eq_left']
   refine forall_congr' fun e => forall_congr' fun he => ?_
   cases Region.binds .any e <;> simp
  simp only [Region.linearise.go]
  change runG S (match (Region.ready .any ops listed)[tn % (Region.ready .any ops listed).length]? with
   | some i => Region.linearise.go .any ops fuel (tn / (Region.ready .any ops listed).length) (listed.setIfInBounds i true) [i]
   | none => [].reverse) s s'
  cases hi:(Region.ready .any ops listed)[tn % (Region.ready .any ops listed).length]? with
  | none =>
   exfalso
   have hnil:Region.ready .any ops listed = []:=by
    cases hr:Region.ready .any ops listed with
    | nil => rfl
    | cons x xs =>
     rw [hr] at hi
     have hlt:tn % (x :: xs).length < (x :: xs).length:=Nat.mod_lt _ (by simp)
     simp at hi
     simp at hlt
     omega
   cases rem with
   | nil => simp at hl
   | cons i rem =>
    have hin:=(hm i).1 (by simp)
    obtain ⟨o,ho,h1,_⟩:=facts i hin.1
    have:i ∈ Region.ready .any ops listed:=by
     rw [ready]
     refine ⟨by simp,o,ho,fun e he hb => ?_⟩
     have hlt:=h1 e he hb
     have hnot:e.on ∉ i :: rem:=by
      intro hmem
      rcases List.mem_cons.1 hmem with e1|e1
      ·omega
      ·have:=(List.pairwise_cons.1 hp).1 _ e1;omega
     have h2:¬ (e.on < ops.size ∧ listed.getD e.on true = false):=fun hh => hnot ((hm e.on).2 hh)
     have h3:e.on < listed.size:=by omega
     have h4:listed.getD e.on true ≠ false:=fun hh => h2 ⟨by omega,hh⟩
     simp only [Array.getD,h3,dif_pos] at h4 ⊢
     simpa using h4
    rw [hnil] at this;cases this
  | some i =>
   simp only []
   rw [linearise_go_acc,List.reverse_singleton,List.singleton_append]
   obtain ⟨hrem,o,ho,hedge⟩:=(ready i).1 (List.mem_of_getElem? hi)
   have hin:=(hm i).1 hrem
   obtain ⟨o',ho',_,h2⟩:=facts i hin.1
   rw [ho] at ho';cases ho'
   obtain ⟨l1,l2,rfl⟩:=List.append_of_mem hrem
   have hp':=List.pairwise_append.1 hp
   have hp2:=List.pairwise_cons.1 hp'.2.1
   have key:=pullG (I:=fun i j => ok i j = true) hsw l2 l1 h (by
    intro j hj
    have hji:j < i:=hp'.2.2 j hj i (by simp)
    rcases h2 j hji with hbit|hind
    ·exfalso
     have h5:=Qgb (S:=fun x => listed.getD x false = true) hcl (fun x o' hx => by
      obtain ⟨o2,ho2,h8,_⟩:=facts x (Array.getElem?_eq_some_iff.1 hx).1
      rw [hx] at ho2;cases ho2;exact h8) i o ho hedge j hbit
     have h6:=((hm j).1 (by simp [hj])).2
     have h7:j < listed.size:=by omega
     simp only [Array.getD,h7,dif_pos] at h5 h6
     rw [h5] at h6;cases h6
    ·exact hind)
   obtain ⟨s1,h3,h4⟩:=key
   refine ⟨s1,h3,ih _ _ (l1 ++ l2) (by simp at hl ⊢;omega) ?_ ?_ (by simpa using hs) ?_ h4⟩
   ·exact List.pairwise_append.2 ⟨hp'.1,hp2.2,fun x hx y hy => hp'.2.2 x hx y (by simp [hy])⟩
   ·intro k
    have hk:=hm k
    by_cases e:k = i
    ·subst e
     have n1:k ∉ l1:=fun hh => by have:=hp'.2.2 k hh k (by simp);omega
     have n2:k ∉ l2:=fun hh => by have:=hp2.1 k hh;omega
     have h7:k < listed.size:=by omega
     simp [n1,n2,Array.getD,h7]
    ·simp only [List.mem_append,List.mem_cons,e,false_or] at hk ⊢
     rw [hk]
     have:(listed.setIfInBounds i true).getD k true = listed.getD k true:=by
      simp [Array.getD_eq_getD_getElem?,Array.getElem?_setIfInBounds_ne (Ne.symm e)]
     rw [this]
   ·have up:∀ x,listed.getD x false = true → (listed.setIfInBounds i true).getD x false = true:=by
     intro x hx
     by_cases e:i = x
     ·subst e
      have h7:i < listed.size:=by omega
      simp [Array.getD,h7]
     ·simpa [Array.getD_eq_getD_getElem?,Array.getElem?_setIfInBounds_ne e] using hx
    intro x o' hx hox e he hb
    by_cases e1:i = x
    ·subst e1
     rw [ho] at hox;cases hox
     exact up _ (hedge e he hb)
    ·refine up _ (hcl x o' ?_ hox e he hb)
     simpa [Array.getD_eq_getD_getElem?,Array.getElem?_setIfInBounds_ne e1] using hx
theorem Jp {σ:Type} {S:Nat → σ → σ → Prop} {ops:Array Oper} {ok:Nat → Nat → Bool} (hok:Qcl ops.size ops ok = true)
  (hsw:∀ i j s s1 s2,ok i j = true → S j s s1 → S i s1 s2 → ∃ s3,S i s s3 ∧ S j s3 s2) (tn:Nat) {s s':σ} (h:runG S (List.range ops.size) s s'):runG S (Region.linearise .any ops tn) s s':=by
 refine Qol hok hsw ops.size tn _ (List.range ops.size) (by simp) List.pairwise_lt_range ?_ (by simp) (fun x o hx => by exfalso;revert hx;simp [Array.getD];try split <;> simp) h
 intro i
 simp only [List.mem_range]
 constructor
 ·intro hi;exact ⟨hi,by simp [Array.getD,hi]⟩
 ·exact fun h => h.1
def stepS (C:CallR) (cs:List COper) (i:Nat) (s s':List Blk × List PV):Prop:=∃ o,cs[i]? = some o ∧ QH C o s.1 s.2 s'.1 s'.2
theorem Qqm {C:CallR} {cs:List COper}:∀ (l:List Nat) {M M':List Blk} {t t':List PV},runL C cs l M t M' t' ↔ runG (stepS C cs) l (M,t) (M',t'):=by
 intro l
 induction l with
 | nil => intro M M' t t';simp [runL,runG]
 | cons i l ih =>
  intro M M' t t'
  constructor
  ·rintro ⟨o,M1,t1,h1,h2,h3⟩
   exact ⟨(M1,t1),⟨o,h1,h2⟩,ih.1 h3⟩
  ·rintro ⟨⟨M1,t1⟩,⟨o,h1,h2⟩,h3⟩
   exact ⟨o,M1,t1,h1,h2,ih.2 h3⟩
theorem Qd2 {C:CallR} {cs:List COper} {ops:Array Oper} (hn:cs.length = ops.size) (hok:QaZ cs ops = true) (tn:Nat) {M M':List Blk} {t t':List PV}
  (h:runL C cs (List.range cs.length) M t M' t'):runL C cs (Region.linearise .any ops tn) M t M' t':=by
 rw [Qqm] at h ⊢
 rw [hn] at h
 unfold QaZ at hok
 rw [hn] at hok
 refine Jp hok (fun i j s s1 s2 hij hj hi => ?_) tn h
 obtain ⟨b,hb,h1⟩:=hj
 obtain ⟨a,ha,h2⟩:=hi
 simp only [ha,hb] at hij
 obtain ⟨M3,t3,h3,h4⟩:=swap hij h1 h2
 exact ⟨(M3,t3),⟨a,ha,h3⟩,b,hb,h4⟩
end Go.Nac
namespace Go.Nac
variable [Env]
section
variable {M M2:List Blk}
theorem ZO {p:PV} (h:∀ i ∈ refs p,M2[i]? = M[i]?):held M2 p = held M p:=by
 cases p
 case os i ver off len => have:=h i (by simp [refs,refs1]);simp only [held,this]
 case s v => unfold held;split <;> first|rfl|(rename_i e;cases e)
 all_goals rfl
theorem Qbv {p:PV} (h:∀ i ∈ refs1 p,M2[i]? = M[i]?):view1 M2 p = view1 M p:=by
 cases p
 case os i ver off len => have:=h i (by simp [refs1]);simp only [view1,this]
 case s v => unfold view1;split <;> first|rfl|(rename_i e;cases e)
 all_goals rfl
theorem J5 {p:PV} (h:∀ i ∈ refs p,M2[i]? = M[i]?):view M2 p = view M p:=by
 cases p
 case agg cs =>
  simp only [view]
  congr 1
  refine List.map_congr_left fun c hc => Qbv fun i hi => h i ?_
  simp only [refs,List.mem_flatMap];exact ⟨c,hc,hi⟩
 all_goals exact Qbv (M:=M) (M2:=M2) (by simpa only [refs] using h)
theorem QdZ {i ver e j n:Nat} (h:M2[i]? = M[i]?):Zp M2 i ver e j n = Zp M i ver e j n:=by simp only [Zp,h]
theorem Qeo {g:Option Nat} {p:PV} (h:∀ i ∈ refs p,M2[i]? = M[i]?):Q8 M2 g p = Q8 M g p:=by
 cases p
 case op i ver e j => have:=h i (by simp [refs,refs1]);simp only [Q8,QdZ this]
 all_goals rfl
theorem Zv {i ver:Nat} (h:M2[i]? = M[i]?):Q4 M2 i ver = Q4 M i ver:=by simp only [Q4,h]
theorem QhK {i:Nat} (h:M2[i]? = M[i]?):rowK M2 i = rowK M i:=by simp only [rowK,h]
end
theorem QhZ {M M2 M':List Blk} {ρ:CX → PV} {v:PV} {c:COp} {R:List Nat} (hf:fpOp ρ c = some (R,[])) (hc:c.cls ≤ 1) (h:res M ρ c = some (v,M')) (ha:∀ i ∈ R,M2[i]? = M[i]?):res M2 ρ c = some (v,M2):=by
 have hM:=QbS hc h
 subst hM
 have hz:∀ c0,c ≠ .fz c0:=fun c0 e => by rw [e] at hc;simp [COp.cls] at hc
 cases c <;> first|exact absurd rfl (hz _)|simp only [fpOp,Option.some.injEq,Prod.mk.injEq,reduceCtorEq] at hf
 case load g x =>
  obtain ⟨rfl,_⟩:=hf
  simp only [res,Qeo ha] at h ⊢
  rw [(Vp h).1];rfl
 case nilc x =>
  obtain ⟨rfl,_⟩:=hf
  simp only [res] at h ⊢
  generalize ρ x = p at h ha
  cases p
  case fp cs => simp at h ⊢;exact h
  case op i ver e j =>
   have:=ha i (by simp [refs,refs1])
   simp only [Zv this] at h ⊢
   split at h
   ·rename_i hl;rw [if_pos hl];simp at h ⊢;exact h
   ·cases h
  case fn f _ _ => cases f <;> first|(cases h;done)|(simp at h ⊢;exact h)
  all_goals cases h
 case arrp n x =>
  obtain ⟨rfl,_⟩:=hf
  simp only [res] at h ⊢
  generalize ρ x = p at h ha
  cases p
  case fs xs =>
   simp only at h ⊢
   split at h
   ·rename_i hl;rw [if_pos hl];simp at h ⊢;exact h
   ·cases h
  case os i ver off len =>
   simp only [ZO ha] at h ⊢
   split at h
   ·rename_i hl;rw [if_pos hl]
    simp only [Option.map_eq_some_iff] at h ⊢
    obtain ⟨a,h1,h2⟩:=h
    exact ⟨a,h1,by simp at h2 ⊢;exact h2⟩
   ·cases h
  all_goals cases h
 case slice k x lo hi =>
  obtain ⟨rfl,_⟩:=hf
  simp only [res] at h ⊢
  generalize ρ x = p at h ha
  cases p
  case fs xs =>
   simp only at h ⊢
   split at h
   ·rename_i hl;rw [if_pos hl]
    simp only [Option.map_eq_some_iff] at h ⊢
    obtain ⟨a,h1,h2⟩:=h
    exact ⟨a,h1,by simp at h2 ⊢;exact h2⟩
   ·cases h
  case s u =>
   by_cases e:u = .slice none 0 0
   ·subst e
    simp only [Option.map_eq_some_iff] at h ⊢
    obtain ⟨a,h1,h2⟩:=h
    exact ⟨a,h1,by simp at h2 ⊢;exact h2⟩
   ·exfalso
    split at h
    ·rename_i e1;cases e1
    ·rename_i e1;cases e1;exact e rfl
    ·rename_i e1;cases e1
    ·cases h
  case os i ver off len =>
   have:=ha i (by simp [refs,refs1])
   simp only [Zv this,QhK this] at h ⊢
   split at h
   ·rename_i hl;rw [if_pos hl]
    simp only [Option.map_eq_some_iff] at h ⊢
    obtain ⟨a,h1,h2⟩:=h
    exact ⟨a,h1,by simp at h2 ⊢;exact h2⟩
   ·cases h
  all_goals cases h
 case faddr off x =>
  obtain ⟨rfl,_⟩:=hf
  simp only [res] at h ⊢
  generalize ρ x = p at h ha
  cases p
  case fp cs =>
   simp only at h ⊢
   split at h
   ·rename_i hl;rw [if_pos hl];simp at h ⊢;exact h
   ·cases h
  case op i ver e j =>
   have:=ha i (by simp [refs,refs1])
   simp only [Zv this] at h ⊢
   split at h
   ·rename_i hl;rw [if_pos hl];simp at h ⊢;exact h
   ·cases h
  all_goals cases h
 case iaddr k x i =>
  obtain ⟨rfl,_⟩:=hf
  simp only [res] at h ⊢
  generalize ρ x = p at h ha
  generalize asNat (ρ i) = m at h
  cases p <;> cases m <;> first|(cases h;done)|skip
  ·rename_i xs m
   simp only at h ⊢
   split at h
   ·split at h
    ·rename_i hl;rw [if_pos hl];simp at h ⊢;exact h
    ·cases h
   ·cases h
  ·rename_i a ver off len m
   have:=ha a (by simp [refs,refs1])
   simp only [this] at h ⊢
   split at h
   ·rename_i hl;rw [if_pos hl]
    split at h
    ·split at h
     ·rename_i hl;rw [if_pos hl];simp at h ⊢;exact h
     ·cases h
    ·cases h
   ·cases h
 case iaddra n k x i =>
  obtain ⟨rfl,_⟩:=hf
  simp only [res] at h ⊢
  generalize ρ x = p at h ha
  generalize asNat (ρ i) = m at h
  cases p <;> cases m <;> first|(cases h;done)|skip
  ·simp only at h ⊢
   split at h
   ·rename_i hl;rw [if_pos hl];simp at h ⊢;exact h
   ·cases h
  ·rename_i a ver e j m
   have:=ha a (by simp [refs,refs1])
   simp only [Zv this] at h ⊢
   split at h
   ·rename_i hl;rw [if_pos hl];simp at h ⊢;exact h
   ·cases h
 case b2s x =>
  obtain ⟨rfl,_⟩:=hf
  simp only [res] at h ⊢
  split at h
  ·cases h
  ·rename_i p hno
   rw [ZO ha]
   simp only [Option.map_eq_some_iff,Prod.mk.injEq] at h ⊢
   obtain ⟨s,h1,h2,_⟩:=h
   exact ⟨s,h1,h2,trivial⟩
 case look sk z ok m key =>
  obtain ⟨rfl,_⟩:=hf
  simp only [res] at h ⊢
  generalize ρ m = p at h ha
  generalize ρ key = q at h
  cases p <;> first|(cases h;done)|skip
  rename_i a
  cases q <;> first|(cases h;done)|skip
  have:=ha a (by simp [refs,refs1])
  simp only [this] at h ⊢
  split at h
  ·split at h
   ·rename_i hl;rw [if_pos hl]
    split at h
    ·simp at h ⊢;exact h
    ·simp at h ⊢;exact h
   ·cases h
  ·cases h
 case box own k x =>
  cases own
  ·simp at hf;subst hf
   simp only [res,Bool.false_eq_true,if_false] at h ⊢
   rw [J5 ha]
   split at h
   ·rename_i hl;rw [if_pos hl];simp at h ⊢;exact h
   ·cases h
  ·simp at hf
 case bsl own k xs =>
  cases own
  ·simp at hf;subst hf
   simp only [res,Bool.false_eq_true,if_false] at h ⊢
   have:xs.map (fun x => view M2 (ρ x)) = xs.map (fun x => view M' (ρ x)):=List.map_congr_left fun x hx => J5 fun i hi => ha i (by simp only [List.mem_flatMap];exact ⟨x,hx,hi⟩)
   rw [this]
   split at h
   ·rename_i hl;rw [if_pos hl];simp at h ⊢;exact h
   ·cases h
  ·simp at hf
 all_goals (simp only [COp.cls] at hc;omega)
end Go.Nac
namespace Go.Nac
variable [Env]
def Upd (W:List Nat) (u:List Blk → List Blk):Prop:=(W = [] ∧ u = id) ∨ ∃ i b,W = [i] ∧ u = fun M => M.set i b
theorem QdT {M M':List Blk} {i ver e j:Nat} {vs:List PV} (h:Q9 M i ver e j vs = some M'):∃ b,M' = M.set i b ∧ ∀ M2:List Blk,M2[i]? = M[i]? → Q9 M2 i ver e j vs = some (M2.set i b):=by
 unfold Q9 at h
 split at h
 ·rename_i k v xs hi
  split at h
  ·rename_i hv
   split at h
   ·rename_i x hx
    split at h
    ·rename_i hc
     split at h
     ·rename_i cs
      cases h
      refine ⟨_,rfl,fun M2 h2 => ?_⟩
      simp only [Q9,h2,hi,if_pos hv,hx,if_pos hc]
     ·rename_i hno
      split at h
      ·rename_i y
       split at h
       ·cases h
       ·rename_i hny
        cases h
        refine ⟨_,rfl,fun M2 h2 => ?_⟩
        simp only [Q9,h2,hi,if_pos hv,hx,if_pos hc]
      ·cases h
    ·cases h
   ·cases h
  ·cases h
 ·cases h
theorem QfW {M M':List Blk} {ρ:CX → PV} {v:PV} {c:COp} {R W:List Nat} (hf:fpOp ρ c = some (R,W)) (hc:¬ c.cls ≤ 1) (h:res M ρ c = some (v,M')) (hl:M'.length = M.length) :
  ∃ i b,W = [i] ∧ M' = M.set i b ∧ ∀ M2:List Blk,M2.length = M.length → (∀ k ∈ R ++ W,M2[k]? = M[k]?) → res M2 ρ c = some (v,M2.set i b):=by
 have hz:∀ c0,c ≠ .fz c0:=fun c0 e => by rw [e] at h;simp [res] at h
 cases c <;> first|exact absurd rfl (hz _)|simp only [fpOp,Option.some.injEq,Prod.mk.injEq,reduceCtorEq] at hf
 case store k a x =>
  obtain ⟨rfl,rfl⟩:=hf
  simp only [res] at h ⊢
  generalize ρ a = p at h
  cases p
  case op i ver e j =>
   simp only at h
   split at h
   ·rename_i hk
    cases hp:Q9 M i ver e j (ρ x).cells with
    | none => rw [hp] at h;cases h
    | some M1 =>
     rw [hp] at h
     obtain ⟨b,rfl,h2⟩:=QdT hp
     simp only [Option.map_some,Option.some.injEq,Prod.mk.injEq] at h
     obtain ⟨rfl,rfl⟩:=h
     refine ⟨i,b,by simp [refs,refs1],rfl,fun M2 _ ha => ?_⟩
     simp only
     rw [if_pos hk,h2 M2 (ha i (by simp [refs,refs1]))];rfl
   ·cases h
  all_goals cases h
 case append k bytes x y =>
  obtain ⟨rfl,rfl⟩:=hf
  simp only [res] at h ⊢
  cases hy:held M (ρ y) with
  | none => rw [hy] at h;cases h
  | some ys =>
   rw [hy] at h
   simp only at h
   split at h
   case isFalse => cases h
   rename_i hys
   generalize hpx:ρ x = p at h
   cases p
   case s u =>
    exfalso
    split at h
    ·split at h
     ·cases h;simp at hl
     ·cases h
    ·rename_i e;cases e
    ·cases h
   case os i ver off len =>
    simp only at h
    split at h
    case h_2 => cases h
    rename_i k' vv xs hi
    split at h
    case isFalse => cases h
    rename_i hc1
    cases h
    refine ⟨i,_,by simp [refs,refs1],rfl,fun M2 _ ha => ?_⟩
    have h1:held M2 (ρ y) = some ys:=by rw [← hy];exact ZO fun z hz => ha z (by simp [hz])
    have h2:M2[i]? = M[i]?:=ha i (by simp [hpx,refs,refs1])
    simp only [h1,if_pos hys,h2,hi,if_pos hc1]
   all_goals cases h
 case fcall f xs => simp [res] at h
 case copy k x y =>
  obtain ⟨rfl,rfl⟩:=hf
  simp only [res] at h ⊢
  generalize hpx:ρ x = p at h
  cases hy:held M (ρ y) with
  | none => rw [hy] at h;cases p <;> cases h
  | some ys =>
   rw [hy] at h
   cases p
   case os i ver off len =>
    simp only at h
    split at h
    case h_2 => cases h
    rename_i k' vv xs hi
    split at h
    case isFalse => cases h
    rename_i hc1
    cases h
    refine ⟨i,_,by simp [refs,refs1],rfl,fun M2 _ ha => ?_⟩
    have h1:held M2 (ρ y) = some ys:=by rw [← hy];exact ZO fun z hz => ha z (by simp [hz])
    have h2:M2[i]? = M[i]?:=ha i (by simp [hpx,refs,refs1])
    simp only [h1,h2,hi,if_pos hc1]
   all_goals cases h
 case mupd sk m key x =>
  obtain ⟨rfl,rfl⟩:=hf
  simp only [res] at h ⊢
  generalize ρ m = p at h
  generalize ρ key = q at h
  generalize ρ x = u at h
  cases p <;> first|(cases h;done)|skip
  rename_i a
  cases q <;> first|(cases h;done)|skip
  cases u <;> first|(cases h;done)|skip
  simp only at h ⊢
  split at h
  case h_2 => cases h
  rename_i es hi
  split at h
  case isFalse => cases h
  rename_i hc1
  cases h
  refine ⟨a,_,by simp [refs,refs1],rfl,fun M2 _ ha => ?_⟩
  have h2:M2[a]? = M[a]?:=ha a (by simp [refs,refs1])
  simp only [h2,hi,if_pos hc1]
 case box own k x =>
  cases own
  ·simp [COp.cls] at hc
  ·simp at hf
 case bsl own k xs =>
  cases own
  ·simp [COp.cls] at hc
  ·simp at hf
 all_goals (exfalso;simp only [COp.cls] at hc;omega)
theorem QiX {ρ:CX → PV} {c:COp} {R W:List Nat} (hf:fpOp ρ c = some (R,W)) (hc:c.cls ≤ 1):W = []:=by
 have hz:∀ c0,c ≠ .fz c0:=fun c0 e => by rw [e] at hc;simp [COp.cls] at hc
 cases c <;> first|exact absurd rfl (hz _)|simp only [fpOp,Option.some.injEq,Prod.mk.injEq,reduceCtorEq] at hf
 case box own k x => cases own <;> simp at hf;exact hf.2
 case bsl own k x => cases own <;> simp at hf;exact hf.2
 case store => simp [COp.cls] at hc
 case fcall => simp [COp.cls] at hc
 case append => simp [COp.cls] at hc
 case copy => simp [COp.cls] at hc
 case mupd => simp [COp.cls] at hc
 all_goals exact hf.2.symm
theorem QbT:∀ (l:List PV) {M M':List Blk},Ql M l = some M' → M'.length = M.length:=by
 intro l
 induction l with
 | nil => intro M M' h;simp only [Ql,Option.some.injEq] at h;rw [h]
 | cons p r ih =>
  intro M M' h
  cases p
  case os i ver off len =>
   simp only [Ql] at h
   cases hz:freeze M i with
   | none => rw [hz] at h;cases h
   | some M1 =>
    rw [hz] at h
    have h1:=ih h
    unfold freeze at hz
    split at hz
    ·cases hz;rw [h1,List.length_set]
    ·cases hz
  all_goals exact ih (by simpa only [Ql] using h)
theorem Qf3 {M M1 M':List Blk} {ρ:CX → PV} {v0:PV} {k bytes:Nat} {x y:CX} (h:res M ρ (.append k bytes x y) = some (v0,M1)) (hz:Ql M1 v0.cells = some M') (hl:M'.length = M.length) :
  ∃ i b,refs (ρ x) = [i] ∧ M' = M.set i b ∧ ∀ M2:List Blk,M2.length = M.length → (∀ q ∈ refs (ρ y) ++ refs (ρ x),M2[q]? = M[q]?) →
   ∃ M3,res M2 ρ (.append k bytes x y) = some (v0,M3) ∧ Ql M3 v0.cells = some (M2.set i b) ∧ view M' v0 = view (M2.set i b) v0:=by
 have hl1:M1.length = M.length:=by rw [← hl];exact (QbT _ hz).symm
 simp only [res] at h ⊢
 cases hy:held M (ρ y) with
 | none => rw [hy] at h;cases h
 | some ys =>
  rw [hy] at h
  simp only at h
  split at h
  case isFalse => cases h
  rename_i hys
  generalize hpx:ρ x = p at h
  cases p
  case s u =>
   exfalso
   split at h
   ·split at h
    ·cases h;simp at hl1
    ·cases h
   ·rename_i e;cases e
   ·cases h
  case os i ver off len =>
   simp only at h
   split at h
   case h_2 => cases h
   rename_i k' vv xs hi
   split at h
   case isFalse => cases h
   rename_i hc1
   cases h
   have hil:i < M.length:=by
    rcases Nat.lt_or_ge i M.length with h|h
    ·exact h
    ·rw [List.getElem?_eq_none h] at hi;cases hi
   have fz:∀ M2:List Blk,M2.length = M.length → Ql (M2.set i (.row true k (ver + 1) ((xs.drop off).take len ++ ys))) (PV.cells (.os i (ver + 1) 0 (len + ys.length))) = some (M2.set i (.row false k (ver + 1) ((xs.drop off).take len ++ ys))):=by
    intro M2 h2
    simp only [PV.cells,Ql,freeze,List.getElem?_set_self (show i < M2.length by omega),Option.bind_some,List.set_set]
   rw [fz M rfl] at hz
   cases hz
   refine ⟨i,_,by simp [refs,refs1],rfl,fun M2 h0 ha => ⟨_,?_,fz M2 h0,?_⟩⟩
   ·have h1:held M2 (ρ y) = some ys:=by rw [← hy];exact ZO fun z hz => ha z (by simp [hz])
    have h2:M2[i]? = M[i]?:=ha i (by simp [refs,refs1])
    simp only [h1,if_pos hys,h2,hi,if_pos hc1]
   ·refine (J5 fun q hq => ?_).symm
    simp only [refs,refs1,List.mem_singleton] at hq
    subst hq
    rw [List.getElem?_set_self (by omega),List.getElem?_set_self (by omega)]
  all_goals cases h
theorem foot {C:CallR} {o:COper × Option Nat} {M M':List Blk} {ρ:CX → PV} {v:PV} {R W:List Nat} (hf:fpD M.length ρ o = some (R,W)) (h:resD C o.2 o.1.op M ρ v M') (hl:M'.length = M.length) :
  ∃ u:List Blk → List Blk,Upd W u ∧ M' = u M ∧ ∀ M2:List Blk,M2.length = M.length → (∀ k ∈ R ++ W,M2[k]? = M[k]?) → resD C o.2 o.1.op M2 ρ v (u M2):=by
 obtain ⟨o,p⟩:=o
 cases p with
 | some r =>
  simp only [fpD,Option.some.injEq,Prod.mk.injEq] at hf
  obtain ⟨rfl,rfl⟩:=hf
  obtain ⟨b,k,xs,h1,h2,h3,rfl⟩:=h
  refine ⟨fun M2 => M2.set (M.length - r) (.row true k 1 xs),.inr ⟨_,_,rfl,rfl⟩,rfl,fun M2 h4 h5 => ⟨b,k,xs,h1,?_,?_,?_⟩⟩
  ·rw [h4];exact (h5 _ (by simp)).trans h2
  ·rw [h4];exact h3
  ·rw [h4]
 | none =>
  simp only [fpD] at hf
  simp only [resD] at h ⊢
  by_cases hfc:∃ f xs,o.op = .fcall f xs
  ·obtain ⟨f,xs,e⟩:=hfc
   rw [e] at hf h ⊢
   obtain ⟨i,b,h1,rfl,h3,h4⟩:=h
   simp only [fpOp,Option.some.injEq,Prod.mk.injEq,h1] at hf
   obtain ⟨rfl,rfl⟩:=hf
   exact ⟨fun M2 => M2.set i b,.inr ⟨i,b,rfl,rfl⟩,rfl,fun M2 h5 h6 => ⟨i,b,h1,rfl,h3,fun N h7 h8 => h4 N (h7.trans h5) (h8.trans (h6 i (by simp)))⟩⟩
  by_cases hfz:∃ c,o.op = .fz c
  ·obtain ⟨c,e⟩:=hfz
   rw [e] at hf h ⊢
   cases c
   case append k bytes x y =>
    simp only [fpOp,Option.some.injEq,Prod.mk.injEq] at hf
    obtain ⟨rfl,rfl⟩:=hf
    obtain ⟨v0,M1,h1,h2,rfl⟩:=h
    obtain ⟨i,b,e1,rfl,h4⟩:=Qf3 h1 h2 hl
    refine ⟨fun M2 => M2.set i b,.inr ⟨i,b,e1,rfl⟩,rfl,fun M2 h5 h6 => ?_⟩
    obtain ⟨M3,g1,g2,g3⟩:=h4 M2 h5 h6
    exact ⟨v0,M3,g1,g2,g3⟩
   all_goals cases hf
  have hnf:∀ f xs,o.op ≠ .fcall f xs:=fun f xs e => hfc ⟨f,xs,e⟩
  have hne:∀ l f xs,o.op ≠ .call l f xs:=by intro l f xs e;rw [e] at hf;cases hf
  have hR:∀ {M M':List Blk},Res C o.op M ρ v M' ↔ res M ρ o.op = some (v,M'):=by
   intro M M'
   have hnz:∀ c,o.op ≠ .fz c:=fun c e => hfz ⟨c,e⟩
   have hnp:∀ f xs,o.op ≠ .pcall f xs:=by intro f xs e;rw [e] at hf;cases hf
   generalize o.op = c at hne hnz hnp hnf
   cases c <;> first|exact Iff.rfl|exact absurd rfl (hne _ _ _)|exact absurd rfl (hnz _)|exact absurd rfl (hnp _ _)|exact absurd rfl (hnf _ _)
  rw [hR] at h
  by_cases hc:o.op.cls ≤ 1
  ·have:=QiX hf hc
   subst this
   have hM:=QbS hc h
   subst hM
   exact ⟨id,.inl ⟨rfl,rfl⟩,rfl,fun M2 h4 h5 => hR.2 (QhZ hf hc h fun i hi => h5 i (by simp [hi]))⟩
  ·obtain ⟨i,b,rfl,rfl,h3⟩:=QfW hf hc h hl
   exact ⟨fun M2 => M2.set i b,.inr ⟨i,b,rfl,rfl⟩,rfl,fun M2 h4 h5 => hR.2 (h3 M2 h4 h5)⟩
theorem Upd.length {W:List Nat} {u:List Blk → List Blk} (h:Upd W u) (M:List Blk):(u M).length = M.length:=by
 rcases h with ⟨_,rfl⟩|⟨i,b,_,rfl⟩
 ·rfl
 ·simp
theorem Upd.out {W:List Nat} {u:List Blk → List Blk} (h:Upd W u) (M:List Blk) {k:Nat} (hk:k ∉ W):(u M)[k]? = M[k]?:=by
 rcases h with ⟨_,rfl⟩|⟨i,b,rfl,rfl⟩
 ·rfl
 ·rw [List.getElem?_set_ne (by simpa using fun e => hk (by simp [e]))]
theorem Upd.comm {W W':List Nat} {u u':List Blk → List Blk} (h:Upd W u) (h':Upd W' u') (hd:Vw W W') (M:List Blk):u (u' M) = u' (u M):=by
 rcases h with ⟨_,rfl⟩|⟨i,b,rfl,rfl⟩
 ·rfl
 ·rcases h' with ⟨_,rfl⟩|⟨j,c,rfl,rfl⟩
  ·rfl
  ·exact List.set_comm _ _ fun e => hd i (by simp) j (by simp) e.symm
theorem Qb3 {C:CallR} {p:Option Nat} {M M':List Blk} {ρ ρ':CX → PV} {v:PV} (c:COp) (h:∀ x ∈ c.opnds,ρ x = ρ' x) (k:resD C p c M ρ v M'):resD C p c M ρ' v M':=by
 cases p with
 | none => exact Yi c h k
 | some r =>
  obtain ⟨o,kk,xs,h1,h2,h3,h4⟩:=k
  refine ⟨o,kk,xs,?_,h2,h3,h4⟩
  rw [← h1]
  cases c <;> first|rfl|skip
  case box own k x => simp only [Vx,h x (by simp [COp.opnds])]
  case bsl own k xs => simp only [Vx,VP (ρ:=ρ) (ρ':=ρ') (xs:=xs) h]
theorem Qcc {ρ ρ':CX → PV} (c:COp) (h:∀ x ∈ c.opnds,ρ x = ρ' x):fpOp ρ c = fpOp ρ' c:=by
  cases c
  case bsl own k xs =>
    simp only [fpOp]
    have:(xs.flatMap fun x => refs (ρ x)) = xs.flatMap fun x => refs (ρ' x):=by
      rw [List.flatMap_def,List.flatMap_def]
      congr 1
      exact List.map_congr_left fun x hx => by rw [h x hx]
    rw [this]
  case slice k x lo hi => simp only [fpOp,h x (by simp [COp.opnds])]
  case fcall f xs => simp only [fpOp,h f (by simp [COp.opnds])]
  case fz c =>
    cases c
    case append k b x y => simp only [fpOp,h x (by simp [COp.opnds]),h y (by simp [COp.opnds])]
    all_goals rfl
  all_goals first
    | rfl
    | (simp only [COp.opnds,List.mem_cons,List.not_mem_nil,or_false,forall_eq_or_imp,forall_eq] at h
       first
         | (simp only [fpOp,h];done)
         | (obtain ⟨h1,h2,h3⟩:=h;simp only [fpOp,h1,h2,h3];done)
         | (obtain ⟨h1,h2⟩:=h;simp only [fpOp,h1,h2];done))
end Go.Nac
namespace Go.Nac
variable [Env]
def stepD (C:CallR) (ops:List (COper × Option Nat)) (φ:Nat → Foot) (i:Nat) (s s':List Blk × List PV):Prop :=
 ∃ o,ops[i]? = some o ∧ o.1.guard = none ∧ ∃ v,resD C o.2 o.1.op s.1 (ev s.2) v s'.1 ∧ s'.1.length = s.1.length ∧ s'.2 = put s.2 o.1.dst v ∧ fpD s.1.length (ev s.2) o = φ i
theorem QnB {C:CallR} (os:List (COper × Option Nat)):∀ (pre:List (COper × Option Nat)) {tr:List Foot} {K:List Foot → List Blk → List PV → Prop} {M:List Blk} {t:List PV},wpD C os tr K M t →
  ∃ M' t' fps,fps.length = os.length ∧ K (tr ++ fps) M' t' ∧ ∀ φ:Nat → Foot,(∀ i,i < os.length → φ (pre.length + i) = fps.getD i none) →
   runG (stepD C (pre ++ os) φ) (List.range' pre.length os.length) (M,t) (M',t'):=by
 induction os with
 | nil => exact fun pre tr K M t h => ⟨M,t,[],rfl,by rw [List.append_nil];exact h,fun φ _ => rfl⟩
 | cons o os ih =>
  intro pre tr K M t h
  obtain ⟨h0,v,M1,h1,h2,h3⟩:=h
  obtain ⟨M',t',fps,h4,h5,h6⟩:=ih (pre ++ [o]) h3
  refine ⟨M',t',fpD M.length (ev t) o :: fps,by simp [h4],by simpa using h5,fun φ hφ => ?_⟩
  simp only [List.length_cons,List.range'_succ]
  refine ⟨(M1,put t o.1.dst v),⟨o,by simp,h0,v,h1,h2,rfl,?_⟩,?_⟩
  ·have:=hφ 0 (by simp)
   simpa using this.symm
  ·have:=h6 φ (fun i hi => by
    have:=hφ (i + 1) (by simp;omega)
    simp only [List.length_append,List.length_singleton,List.getD_cons_succ] at this ⊢
    rw [← this];congr 1;omega)
   simpa using this
def Qb0 (a b:COper):Bool :=
 (match a.dst with|some d => !b.looks.contains d && b.dst != some d|none => true) &&
 (match b.dst with|some d => !a.looks.contains d|none => true)
def okD (ops:List (COper × Option Nat)) (pairs:List (Nat × Nat)) (i j:Nat):Bool :=
 match ops[i]?,ops[j]? with
 | some a,some b => Qb0 a.1 b.1 &&
   ((a.2.isNone && a.1.op.cls == 0) || (b.2.isNone && b.1.op.cls == 0) || (a.2.isNone && b.2.isNone && decide (a.1.op.cls ≤ 1) && decide (b.1.op.cls ≤ 1)) || pairs.contains (j,i))
 | _,_ => false
theorem QhQ {x y:Foot} (h:Za x y):∃ r1 w1 r2 w2,x = some (r1,w1) ∧ y = some (r2,w2) ∧ Vw w1 r2 ∧ Vw w1 w2 ∧ Vw r1 w2:=by
 cases x with
 | none => cases y <;> cases h
 | some p => cases y with
  | none => cases h
  | some q => exact ⟨p.1,p.2,q.1,q.2,rfl,rfl,h⟩
theorem swapD {C:CallR} {ops:List (COper × Option Nat)} {pairs:List (Nat × Nat)} {φ:Nat → Foot} (hφ:∀ p ∈ pairs,Za (φ p.1) (φ p.2)) {i j:Nat} {s s1 s2:List Blk × List PV} (ok:okD ops pairs i j = true)
  (hj:stepD C ops φ j s s1) (hi:stepD C ops φ i s1 s2):∃ s3,stepD C ops φ i s s3 ∧ stepD C ops φ j s3 s2:=by
 obtain ⟨b,hb,gb,v,b1,b2,b3,b4⟩:=hj
 obtain ⟨a,ha,ga,u,a1,a2,a3,a4⟩:=hi
 obtain ⟨M,t⟩:=s
 obtain ⟨M1,t1⟩:=s1
 obtain ⟨M2,t2⟩:=s2
 simp only at b1 b2 b3 b4 a1 a2 a3 a4
 subst b3;subst a3
 simp only [okD,ha,hb,Qb0,Bool.and_eq_true,Bool.or_eq_true,decide_eq_true_eq,beq_iff_eq,Option.isNone_iff_eq_none,List.contains_eq_mem] at ok
 obtain ⟨⟨i1,i2⟩,i3⟩:=ok
 have n1:∀ d,a.1.dst = some d → d ∉ b.1.looks ∧ b.1.dst ≠ some d:=by
  intro d hd;rw [hd] at i1;simp at i1;exact i1
 have n2:∀ d,b.1.dst = some d → d ∉ a.1.looks:=by
  intro d hd;rw [hd] at i2;simp at i2;exact i2
 have n3:∀ d,b.1.dst = some d → a.1.dst ≠ some d:=fun d hd ha => (n1 d ha).2 hd
 have ea:∀ x ∈ a.1.op.opnds,ev (put t b.1.dst v) x = ev t x:=Jm n2
 have eb:∀ x ∈ b.1.op.opnds,ev t x = ev (put t a.1.dst u) x:=fun x hx => (Jm (fun d hd => (n1 d hd).1) x hx).symm
 have a1':=Qb3 a.1.op ea a1
 have fpa:fpD M1.length (ev (put t b.1.dst v)) a = fpD M.length (ev t) a:=by
  rw [b2];unfold fpD;split
  ·rfl
  ·exact Qcc _ ea
 have fpb:fpD M.length (ev t) b = fpD M.length (ev (put t a.1.dst u)) b:=by
  unfold fpD;split
  ·rfl
  ·exact Qcc _ eb
 -- what is left: where memory stands between
 suffices h:∃ M3,resD C a.2 a.1.op M (ev t) u M3 ∧ M3.length = M.length ∧ resD C b.2 b.1.op M3 (ev t) v M2 by
  obtain ⟨M3,h1,h2,h3⟩:=h
  refine ⟨(M3,put t a.1.dst u),⟨a,ha,ga,u,h1,h2,rfl,?_⟩,b,hb,gb,v,Qb3 b.1.op eb h3,?_,?_,?_⟩
  ·exact fpa.symm.trans a4
  ·simp only;omega
  ·exact Zh n3
  ·simp only;rw [h2,← fpb];exact b4
 rcases i3 with ((⟨p1,p2⟩|⟨p1,p2⟩)|⟨⟨⟨p1,p2⟩,p3⟩,p4⟩)|hp
 ·rw [p1] at a1' ⊢
  obtain ⟨rfl,hall⟩:=JT p2 a1'
  exact ⟨M,hall M,rfl,b1⟩
 ·rw [p1] at b1 ⊢
  obtain ⟨rfl,hall⟩:=JT p2 b1
  exact ⟨M2,a1',a2,hall M2⟩
 ·rw [p1] at a1' ⊢
  rw [p2] at b1 ⊢
  have e1:M1 = M:=JH p4 b1
  subst e1
  have e2:M2 = M1:=JH p3 a1'
  subst e2
  exact ⟨M2,a1',rfl,b1⟩
 ·have hok:=hφ _ (by simpa using hp)
  simp only at hok
  rw [← a4,← b4,fpa] at hok
  obtain ⟨Rb,Wb,Ra,Wa,hfb,hfa,o1,o2,o3⟩:=QhQ hok
  obtain ⟨ub,hub,rfl,hb2⟩:=foot hfb b1 b2
  have hfa':fpD (ub M).length (ev t) a = some (Ra,Wa):=by rw [b2];exact hfa
  obtain ⟨ua,hua,rfl,ha2⟩:=foot hfa' a1' a2
  have agree:∀ k ∈ Ra ++ Wa,M[k]? = (ub M)[k]?:=by
   intro k hk
   refine (hub.out M fun hw => ?_).symm
   rcases List.mem_append.1 hk with hk|hk
   ·exact o1 k hw k hk rfl
   ·exact o2 k hw k hk rfl
  refine ⟨ua M,ha2 M b2.symm agree,hua.length M,?_⟩
  have h5:=hb2 (ua M) (hua.length M) (fun k hk => hua.out M fun hw => by
   rcases List.mem_append.1 hk with hk|hk
   ·exact o3 k hk k hw rfl
   ·exact o2 k hk k hw rfl)
  rw [hub.comm hua o2] at h5
  exact h5
end Go.Nac
namespace Go.Nac
variable [Env]
section
variable {R:CCode → Code → Prop} {M:List Blk} {L:Loc} {w:World}
theorem QjB {n:Nat} (x:PV):lowL n x.cells ↔ x.low n:=by
 cases x <;> simp [PV.cells,lowL,PV.low]
theorem Ze {n:Nat} (xs:List PV):lowL n (xs.flatMap PV.cells) ↔ lowL n xs:=by
 induction xs with
 | nil => simp [lowL]
 | cons x xs ih => rw [List.flatMap_cons,Jg,QjB,ih,lowL]
mutual
theorem VRel.low:∀ {p:PV} {c:Value},VRel M L w p c → p.low M.length
 | _,_,.top v => by simp [PV.low]
 | _,_,.s v h => by simp [PV.low]
 | _,_,.agg cs vs h => by rw [PV.low];exact LRel.low h
 | _,_,.tup cs vs h => by rw [PV.low];exact LRel.low h
 | _,_,.fs xs a n cap k vs hn hc hk h hm => by
   rw [PV.low]
   exact (Ze xs).1 (LRel.low h)
 | _,_,.fp cs b o vs h hlt hb hm => by rw [PV.low];exact LRel.low h
 | _,_,.os i ver off len wr k xs a cap hi hx hc hm => by rw [PV.low];exact (List.getElem?_eq_some_iff.1 hi).1
 | _,_,.os' i ver off len wr k v' xs a c hi hv => by rw [PV.low];exact (List.getElem?_eq_some_iff.1 hi).1
 | _,_,.op i ver e j wr k xs b o hi he hL => by rw [PV.low];exact (List.getElem?_eq_some_iff.1 hi).1
 | _,_,.op' i ver e j wr k v' xs a hi hv => by rw [PV.low];exact (List.getElem?_eq_some_iff.1 hi).1
 | _,_,.om i es b o hi hL => by rw [PV.low];exact (List.getElem?_eq_some_iff.1 hi).1
 | _,_,.fn f a c va vc ha hc => by rw [PV.low];exact ⟨LRel.low ha,LRel.low hc⟩
 | _,_,.yl i st pd ts ps x y b o hi hL => by rw [PV.low];exact (List.getElem?_eq_some_iff.1 hi).1
 | _,_,.nan k b h => by simp [PV.low]
 | _,_,.err t v => by simp [PV.low]
 | _,_,.oi i s pos b o hi hL => by rw [PV.low];exact (List.getElem?_eq_some_iff.1 hi).1
theorem LRel.low:∀ {xs:List PV} {vs:List Value},LRel M L w xs vs → lowL M.length xs
 | _,_,.nil => by simp [lowL]
 | _,_,.cons x v xs vs h hs => by rw [lowL];exact ⟨VRel.low h,LRel.low hs⟩
end
theorem BRel.low {i:Nat} {b:Blk} (h:BRel R M L w i b):b.low M.length:=by
 cases b with
 | row wr k ver xs =>
  obtain ⟨_,h1,h2⟩:=h
  rw [Blk.low]
  cases hL:L i with
  | none => rw [h2 hL];simp [lowL]
  | some p =>
   obtain ⟨_,_,_,_,h3,_⟩:=h1 p.1 p.2 hL
   exact (Ze xs).1 h3.low
 | map es => exact trivial
 | loop st pd ts ps a b =>
  obtain ⟨_,_,_,_,_,_,_,_,h,_⟩:=h
  rw [Blk.low];exact h.low
 | siter => exact trivial
theorem Sim.low (S:Sim R M L w):lowM M.length M:=by
 intro b hb
 obtain ⟨i,hi⟩:=List.getElem?_of_mem hb
 exact (S.mem i b hi).low
section
variable {M2:List Blk} {L2:Loc} {n:Nat} (hM:∀ i,i < n → M2[i]? = M[i]?) (hL:∀ i,i < n → L2 i = L i) (hO:∀ b,Owned M2 L2 b → Owned M L b)
include hM hL hO
mutual
theorem VRel.remap:∀ {p:PV} {c:Value},VRel M L w p c → p.low n → VRel M2 L2 w p c
 | _,_,.top v,_ => .top v
 | _,_,.s v h,_ => .s v h
 | _,_,.agg cs vs h,l => .agg cs vs (LRel.remap h (by rw [PV.low] at l;exact l))
 | _,_,.tup cs vs h,l => .tup cs vs (LRel.remap h (by rw [PV.low] at l;exact l))
 | _,_,.fs xs a n cap k vs hn hc hk h hm,l => .fs xs a n cap k vs hn hc hk (LRel.remap h (by rw [PV.low] at l;exact (Ze xs).2 l)) fun hne => by
   obtain ⟨b,o,ha,hlt,hb,hv⟩:=hm hne
   exact ⟨b,o,ha,hlt,fun h => hb (hO b h),hv⟩
 | _,_,.fp cs b o vs h hlt hb hm,l => .fp cs b o vs (LRel.remap h (by rw [PV.low] at l;exact l)) hlt (fun h => hb (hO b h)) hm
 | _,_,.os i ver off len wr k xs a cap hi hx hc hm,l => .os i ver off len wr k xs a cap ((hM i (by rw [PV.low] at l;exact l)).trans hi) hx hc fun hne => by
   rw [PV.low] at l
   obtain ⟨b,o,c,el,g1,g2⟩:=hm hne
   exact ⟨b,o,c,el,(hL i l).trans g1,g2⟩
 | _,_,.os' i ver off len wr k v' xs a c hi hv,l => .os' i ver off len wr k v' xs a c ((hM i (by rw [PV.low] at l;exact l)).trans hi) hv
 | _,_,.op i ver e j wr k xs b o hi he hL',l => .op i ver _ j wr k xs b o ((hM i (by rw [PV.low] at l;exact l)).trans hi) he ((hL i (by rw [PV.low] at l;exact l)).trans hL')
 | _,_,.op' i ver e j wr k v' xs a hi hv,l => .op' i ver _ j wr k v' xs a ((hM i (by rw [PV.low] at l;exact l)).trans hi) hv
 | _,_,.om i es b o hi hL',l => .om i es b o ((hM i (by rw [PV.low] at l;exact l)).trans hi) ((hL i (by rw [PV.low] at l;exact l)).trans hL')
 | _,_,.fn f a c va vc ha hc,l => .fn f a c va vc (LRel.remap ha (by rw [PV.low] at l;exact l.1)) (LRel.remap hc (by rw [PV.low] at l;exact l.2))
 | _,_,.yl i st pd ts ps x y b o hi hL',l => .yl i st pd ts ps x y b o ((hM i (by rw [PV.low] at l;exact l)).trans hi) ((hL i (by rw [PV.low] at l;exact l)).trans hL')
 | _,_,.nan k b h,_ => .nan k b h
 | _,_,.err t v,_ => .err t v
 | _,_,.oi i s pos b o hi hL',l => .oi i s pos b o ((hM i (by rw [PV.low] at l;exact l)).trans hi) ((hL i (by rw [PV.low] at l;exact l)).trans hL')
theorem LRel.remap:∀ {xs:List PV} {vs:List Value},LRel M L w xs vs → lowL n xs → LRel M2 L2 w xs vs
 | _,_,.nil,_ => .nil
 | _,_,.cons x v xs vs h hs,l => .cons x v xs vs (VRel.remap h (by rw [lowL] at l;exact l.1)) (LRel.remap hs (by rw [lowL] at l;exact l.2))
end
theorem BRel.remap {i j:Nat} {b:Blk} (h:BRel R M L w i b) (l:b.low n) (e:L2 j = L i):BRel R M2 L2 w j b:=by
 cases b with
 | row wr k ver xs =>
  rw [Blk.low] at l
  obtain ⟨h0,h1,h2⟩:=h
  refine ⟨h0,fun b o hb => ?_,fun hb => h2 (e ▸ hb)⟩
  obtain ⟨c,el,vs,g1,g2,g3⟩:=h1 b o (e ▸ hb)
  exact ⟨c,el,vs,g1,LRel.remap hM hL hO g2 ((Ze xs).2 l),g3⟩
 | map es =>
  obtain ⟨b,o,ents,clock,h1,h2⟩:=h
  exact ⟨b,o,ents,clock,e.trans h1,h2⟩
 | loop st pd ts ps a b =>
  rw [Blk.low] at l
  obtain ⟨k,o,r,h1,h2,h3,h4,h5,h6,h7⟩:=h
  exact ⟨k,o,r,e.trans h1,h2,h3,h4,h5,LRel.remap hM hL hO h6 l,h7⟩
 | siter s pos =>
  obtain ⟨b,o,h1,h2⟩:=h
  exact ⟨b,o,e.trans h1,h2⟩
end
theorem Zl {n i:Nat} (h:i < n):(M.take n)[i]? = M[i]?:=by rw [List.getElem?_take,if_pos h]
theorem ZG {n i:Nat} {b:Blk} (h:(M.take n)[i]? = some b):M[i]? = some b ∧ i < n:=by
 rw [List.getElem?_take] at h
 split at h
 ·exact ⟨h,by assumption⟩
 ·cases h
theorem Owned.take {n b:Nat} (h:Owned (M.take n) L b):Owned M L b:=by
 obtain ⟨i,bl,p,h1,h2⟩:=h
 exact ⟨i,bl,p,(ZG h1).1,h2⟩
theorem Sim.take (S:Sim R M L w) {n:Nat} (l:lowM n (M.take n)):Sim R (M.take n) L w :=
  ⟨fun i b hi => BRel.remap (fun i h => Zl h) (fun _ _ => rfl) (fun b h => h.take) (S.mem i b (ZG hi).1) (l b (List.mem_of_getElem? hi)) rfl,
   fun i j bi bj p q h1 h2 => S.inj i j bi bj p q (ZG h1).1 (ZG h2).1,
   fun g cs h => ⟨(S.env g cs h).1,fun o => (S.env g cs h).2 o.take⟩⟩
theorem VRel.take {n:Nat} {p:PV} {c:Value} (h:VRel M L w p c) (l:p.low n):VRel (M.take n) L w p c :=
 VRel.remap (fun i h => Zl h) (fun _ _ => rfl) (fun b h => h.take) h l
theorem LRel.take' {n:Nat} {p:List PV} {c:List Value} (h:LRel M L w p c) (l:lowL n p):LRel (M.take n) L w p c :=
 LRel.remap (fun i h => Zl h) (fun _ _ => rfl) (fun b h => h.take) h l
theorem Evo.take {M0:List Blk} {L0:Loc} {w0:World} (E:Evo M0 L0 w0 M L w) {n:Nat} (h:M0.length ≤ n):Evo M0 L0 w0 (M.take n) L w where
 os:=E.os
 tape:=E.tape
 output:=E.output
 drawn:=E.drawn
 size:=E.size
 frame:=fun b h1 h2 => ⟨(E.frame b h1 h2).1,fun h => (E.frame b h1 h2).2 h.take⟩
 blk:=fun i b hi => by
  obtain ⟨b',h1,h2⟩:=E.blk i b hi
  exact ⟨b',by rw [Zl (Nat.lt_of_lt_of_le (List.getElem?_eq_some_iff.1 hi).1 h)];exact h1,h2⟩
theorem Qph (S:Sim R M L w) {i ver off len:Nat} {c:Value} {xs:List PV} {M2:List Blk} (h:VRel M L w (.os i ver off len) c) (hh:held M (.os i ver off len) = some xs)
  (hO:∀ b,Owned M2 L b → Owned M L b) (hno:∀ b o,L i = some (b,o) → ¬ Owned M2 L b) {n:Nat} (hM:∀ i,i < n → M2[i]? = M[i]?) (l:lowL n xs):VRel M2 L w (.fs xs) c:=by
 simp only [held] at hh
 split at hh
 ·rename_i wr k v ys hi
  split at hh
  ·rename_i hc
   obtain ⟨rfl,hle⟩:=hc
   simp only [Option.some.injEq] at hh
   subst hh
   obtain ⟨a,cap,rfl,_,hcap,hm⟩:=h.os_live hi
   obtain ⟨hk,h2,h3⟩:=S.mem i _ hi
   have hlen:((ys.drop off).take len).length = len:=by simp;omega
   by_cases hcap0:cap = 0
   ·have:len = 0:=by omega
    subst this
    exact .fs _ _ _ _ k [] (by simp) (by simp) (by simp) (by simp;exact .nil) (by simp)
   ·obtain ⟨B,q,cc,el',hL,rfl,hb,hsz⟩:=hm hcap0
    obtain ⟨cc',el'',vs,g1,g2,g3⟩:=h2 B q hL
    obtain ⟨rfl,rfl⟩:=hb.uniq g1
    have hr:=(g2.drop (off * k)).take (len * k)
    rw [Vu hk,VJ (fun x hx => hk x (List.mem_of_mem_drop hx))] at hr
    refine .fs _ _ _ _ k _ hlen.symm (by rw [hlen];exact hcap) (fun x hx => hk x (List.mem_of_mem_drop (List.mem_of_mem_take hx))) (LRel.remap hM (fun _ _ => rfl) hO hr ((Ze _).2 l)) fun hne => ?_
    refine ⟨B,q + off * k,rfl,hb.lt,hno B q hL,fun m u hu => ?_⟩
    rw [List.getElem?_take] at hu
    split at hu
    ·rw [List.getElem?_drop] at hu
     have:=g3 _ _ hu
     rw [show q + off * k + m = q + (off * k + m) from by omega]
     exact (hb.cell _).trans this
    ·cases hu
  ·cases hh
 ·cases hh
theorem VRel.out1 (S:Sim R M L w) {n:Nat} {p:PV} {c:Value} (h:VRel M L w p c) (l:(Nac.out1 n M p).low n):VRel (M.take n) L w (Nac.out1 n M p) c:=by
 cases p
 case os i ver off len =>
  simp only [Nac.out1] at l ⊢
  split
  ·rename_i hn
   rw [if_pos hn] at l
   cases hh:held M (.os i ver off len) with
   | none => exact .top c
   | some xs =>
    rw [hh] at l
    simp only [PV.low] at l
    refine Qph S h hh (fun b h => h.take) (fun b o hL => ?_) (fun i h => Zl h) l
    rintro ⟨j,bl,p,h1,h4,h5,h6⟩
    obtain ⟨h1,hj⟩:=ZG h1
    simp only [held] at hh
    split at hh
    ·rename_i hi
     exact S.inj j i bl _ p (b,o) h1 hi h4 (by omega) h5 hL h6
    ·cases hh
  ·rename_i hn
   rw [if_neg hn] at l
   exact (Ym S h).take l
 case s v =>
  have hc:=h.s_inv
  subst hc
  by_cases e:c = .slice none 0 0
  ·subst e;exact .fs [] none 0 0 0 [] rfl (Nat.le_refl _) (by simp) .nil (by simp)
  ·have:Nac.out1 n M (.s c) = .s c:=by
    unfold Nac.out1
    split
    ·rename_i h;cases h
    ·rename_i h;cases h;exact absurd rfl e
    ·rfl
   rw [this] at l ⊢;exact h.take l
 all_goals exact h.take l
theorem LRel.out1 (S:Sim R M L w) {n:Nat} {ps:List PV} {cs:List Value} (h:LRel M L w ps cs) (l:lowL n (ps.map (Nac.out1 n M))):LRel (M.take n) L w (ps.map (Nac.out1 n M)) cs:=by
 induction ps generalizing cs with
 | nil => cases h;exact .nil
 | cons x xs ih =>
  rw [List.map_cons,lowL] at l
  cases h with|cons _ v _ vs h hs => exact .cons _ _ _ _ (h.out1 S l.1) (ih hs l.2)
theorem VRel.outV (S:Sim R M L w) {n:Nat} {p:PV} {c:Value} (h:VRel M L w p c) (l:(Nac.outV n M p).low n):VRel (M.take n) L w (Nac.outV n M p) c:=by
 cases p
 case agg cs =>
  cases h with
  | agg _ vs h => exact .agg _ _ (LRel.out1 S h (by simpa only [Nac.outV,PV.low] using l))
 all_goals exact VRel.out1 S h l
theorem LRel.outV (S:Sim R M L w) {n:Nat} {ps:List PV} {cs:List Value} (h:LRel M L w ps cs) (l:lowL n (ps.map (Nac.outV n M))):LRel (M.take n) L w (ps.map (Nac.outV n M)) cs:=by
 induction ps generalizing cs with
 | nil => cases h;exact .nil
 | cons x xs ih =>
  rw [List.map_cons,lowL] at l
  cases h with|cons _ v _ vs h hs => exact .cons _ _ _ _ (h.outV S l.1) (ih hs l.2)
section
variable {D:Nat} {o:Obj} (hD:∀ c el s,w.heap[D]? ≠ some (.cells c el s))
include hD
theorem QaM {b:Nat} {c:Array Value} {el:TypeId} {s:Nat × Nat} (h:w.heap[b]? = some (.cells c el s)):(w.putObj D o).heap[b]? = some (.cells c el s):=by
 rw [World.putObj_heap_other (fun e => hD _ _ _ (e ▸ h))];exact h
theorem RowAt.putObj {b:Nat} {c:Array Value} {el:TypeId} (h:RowAt w b c el):RowAt (w.putObj D o) b c el:=by
 obtain ⟨z,h,h2⟩:=h;exact ⟨z,QaM hD h,h2⟩
theorem QbA {a:Addr} {v:Value} (h:w.cell? a = some v):(w.putObj D o).cell? a = some v:=by
 rw [← h]
 by_cases e:a.block = D
 ·exfalso
  simp only [World.cell?] at h
  split at h
  ·rename_i h1;exact hD _ _ _ (e ▸ h1)
  ·cases h
 ·simp only [World.cell?];rw [World.putObj_heap_other e]
mutual
theorem VRel.poke:∀ {p:PV} {c:Value},VRel M L w p c → VRel M L (w.putObj D o) p c
 | _,_,.top v => .top v
 | _,_,.s v h => .s v h
 | _,_,.agg cs vs h => .agg cs vs (LRel.poke h)
 | _,_,.tup cs vs h => .tup cs vs (LRel.poke h)
 | _,_,.fs xs a n cap k vs hn hc hk h hm => .fs xs a n cap k vs hn hc hk (LRel.poke h) fun hne => by
   obtain ⟨b,o,ha,hlt,hb,hv⟩:=hm hne
   exact ⟨b,o,ha,by rw [World.putObj_size];exact hlt,hb,fun m v hmv => QbA hD (hv m v hmv)⟩
 | _,_,.fp cs b o vs h hlt hb hm => .fp cs b o vs (LRel.poke h) (by rw [World.putObj_size];exact hlt) hb fun m v hmv => QbA hD (hm m v hmv)
 | _,_,.os i ver off len wr k xs a cap hi hx hc hm => .os i ver off len wr k xs a cap hi hx hc fun hne => by
   obtain ⟨b,o,c,el,g1,g2,g3,g4⟩:=hm hne
   exact ⟨b,o,c,el,g1,g2,RowAt.putObj hD g3,g4⟩
 | _,_,.os' i ver off len wr k v' xs a c hi hv => .os' i ver off len wr k v' xs a c hi hv
 | _,_,.op i ver e j wr k xs b o hi he hL => .op i ver _ j wr k xs b o hi he hL
 | _,_,.op' i ver e j wr k v' xs a hi hv => .op' i ver _ j wr k v' xs a hi hv
 | _,_,.om i es b o hi hL => .om i es b o hi hL
 | _,_,.fn f a c va vc ha hc => .fn f a c va vc (LRel.poke ha) (LRel.poke hc)
 | _,_,.yl i st pd ts ps x y b o hi hL => .yl i st pd ts ps x y b o hi hL
 | _,_,.nan k b h => .nan k b h
 | _,_,.err t v => .err t v
 | _,_,.oi i s pos b o hi hL => .oi i s pos b o hi hL
theorem LRel.poke:∀ {xs:List PV} {vs:List Value},LRel M L w xs vs → LRel M L (w.putObj D o) xs vs
 | _,_,.nil => .nil
 | _,_,.cons x v xs vs h hs => .cons x v xs vs (VRel.poke h) (LRel.poke hs)
end
theorem BRel.poke {i:Nat} {b:Blk} (hO:¬ Owned M L D) (hi:M[i]? = some b) (h:BRel R M L w i b):BRel R M L (w.putObj D o) i b:=by
 cases b with
 | row wr k ver xs =>
  obtain ⟨h0,h1,h2⟩:=h
  refine ⟨h0,fun b o hb => ?_,h2⟩
  obtain ⟨c,el,vs,g1,g2,g3⟩:=h1 b o hb
  exact ⟨c,el,vs,RowAt.putObj hD g1,LRel.poke hD g2,g3⟩
 | map es =>
  obtain ⟨b,o,ents,clock,h1,h2,h3⟩:=h
  refine ⟨b,o,ents,clock,h1,?_,h3⟩
  rw [World.putObj_heap_other (fun e => hO ⟨i,_,(b,o),hi,rfl,h1,e⟩)];exact h2
 | loop st pd ts ps a b =>
  obtain ⟨k,o,r,h1,h2,h3,h4,h5,h6,h7⟩:=h
  refine ⟨k,o,r,h1,?_,h3,h4,h5,LRel.poke hD h6,h7⟩
  rw [World.putObj_heap_other (fun e => hO ⟨i,_,(k,o),hi,rfl,h1,e⟩)];exact h2
 | siter s pos =>
  obtain ⟨b,o,h1,h2⟩:=h
  refine ⟨b,o,h1,?_⟩
  rw [World.putObj_heap_other (fun e => hO ⟨i,_,(b,o),hi,rfl,h1,e⟩)];exact h2
theorem Sim.poke (hO:¬ Owned M L D) (S:Sim R M L w):Sim R M L (w.putObj D o):=⟨fun i b hi => BRel.poke hD hO hi (S.mem i b hi),S.inj,fun g cs h => by
 obtain ⟨⟨el,h1⟩,h2⟩:=S.env g cs h
 exact ⟨⟨el,QaM hD h1⟩,h2⟩⟩
theorem Evo.poke {M0:List Blk} {L0:Loc} {w0:World} (E:Evo M0 L0 w0 M L w) (h:w0.heap.size ≤ D):Evo M0 L0 w0 M L (w.putObj D o) where
 os:=E.os
 tape:=E.tape
 output:=E.output
 drawn:=E.drawn
 size:=by rw [World.putObj_size];exact E.size
 frame:=fun b h1 h2 => ⟨by rw [World.putObj_heap_other (by omega)];exact (E.frame b h1 h2).1,(E.frame b h1 h2).2⟩
 blk:=fun i b hi => by
  obtain ⟨b',h1,h2⟩:=E.blk i b hi
  refine ⟨b',h1,?_⟩
  cases b with
  | row wr k ver xs =>
   cases b' with
   | row wr' k' ver' xs' =>
    refine ⟨h2.1,fun e => ?_⟩
    obtain ⟨g1,g2,g3,g4⟩:=h2.2 e
    refine ⟨g1,g2,g3,fun b o c el hb hc => ?_⟩
    obtain ⟨c',k1,k2⟩:=g4 b o c el hb hc
    exact ⟨c',RowAt.putObj hD k1,k2⟩
   | _ => exact h2.elim
  | map es => cases b' <;> exact h2
  | loop => cases b' <;> exact h2
  | siter => cases b' <;> exact h2
end
end
end Go.Nac
namespace Go.Nac
variable [Env]
section
variable {R:CCode → Code → Prop} {M:List Blk} {L:Loc} {w:World}
section
variable {M2:List Blk} {L2:Loc} {n x:Nat} {kk:Nat} {zs:List PV} (hM:∀ i,i < n → i ≠ x → M2[i]? = M[i]?) (hx:M[x]? = some hole) (hx2:M2[x]? = some (.row true kk 1 zs)) (hL:∀ i,i < n → i ≠ x → L2 i = L i) (hO:∀ b,Owned M2 L2 b → Owned M L b)
include hM hx hx2 hL hO
mutual
theorem VRel.fill:∀ {p:PV} {c:Value},VRel M L w p c → p.low n → VRel M2 L2 w p c
 | _,_,.top v,_ => .top v
 | _,_,.s v h,_ => .s v h
 | _,_,.agg cs vs h,l => .agg cs vs (LRel.fill h (by rw [PV.low] at l;exact l))
 | _,_,.tup cs vs h,l => .tup cs vs (LRel.fill h (by rw [PV.low] at l;exact l))
 | _,_,.fs xs a n cap k vs hn hc hk h hm,l => .fs xs a n cap k vs hn hc hk (LRel.fill h (by rw [PV.low] at l;exact (Ze xs).2 l)) fun hne => by
   obtain ⟨b,o,ha,hlt,hb,hv⟩:=hm hne
   exact ⟨b,o,ha,hlt,fun h => hb (hO b h),hv⟩
 | _,_,.fp cs b o vs h hlt hb hm,l => .fp cs b o vs (LRel.fill h (by rw [PV.low] at l;exact l)) hlt (fun h => hb (hO b h)) hm
 | _,_,.os i ver off len wr k xs a cap hi hx' hc hm,l => by
   rw [PV.low] at l
   by_cases e:i = x
   ·subst e
    rw [hx] at hi;cases hi
    exact .os' i 0 off len true kk 1 zs a cap hx2 (by omega)
   ·exact .os i ver off len wr k xs a cap ((hM i l e).trans hi) hx' hc fun hne => by
     obtain ⟨b,o,c,el,g1,g2⟩:=hm hne
     exact ⟨b,o,c,el,(hL i l e).trans g1,g2⟩
 | _,_,.os' i ver off len wr k v' xs a c hi hv,l => by
   rw [PV.low] at l
   by_cases e:i = x
   ·subst e
    rw [hx] at hi;cases hi;omega
   ·exact .os' i ver off len wr k v' xs a c ((hM i l e).trans hi) hv
 | _,_,.op i ver e j wr k xs b o hi he hL',l => by
   rw [PV.low] at l
   by_cases e':i = x
   ·subst e'
    rw [hx] at hi;cases hi;simp at he
   ·exact .op i ver _ j wr k xs b o ((hM i l e').trans hi) he ((hL i l e').trans hL')
 | _,_,.op' i ver e j wr k v' xs a hi hv,l => by
   rw [PV.low] at l
   by_cases e':i = x
   ·subst e'
    rw [hx] at hi;cases hi;omega
   ·exact .op' i ver _ j wr k v' xs a ((hM i l e').trans hi) hv
 | _,_,.om i es b o hi hL',l => by
   rw [PV.low] at l
   by_cases e':i = x
   ·subst e'
    rw [hx] at hi;cases hi
   ·exact .om i es b o ((hM i l e').trans hi) ((hL i l e').trans hL')
 | _,_,.fn f a c va vc ha hc,l => .fn f a c va vc (LRel.fill ha (by rw [PV.low] at l;exact l.1)) (LRel.fill hc (by rw [PV.low] at l;exact l.2))
 | _,_,.yl i st pd ts ps u y b o hi hL',l => by
   rw [PV.low] at l
   by_cases e':i = x
   ·subst e'
    rw [hx] at hi;cases hi
   ·exact .yl i st pd ts ps u y b o ((hM i l e').trans hi) ((hL i l e').trans hL')
 | _,_,.nan k b h,_ => .nan k b h
 | _,_,.err t v,_ => .err t v
 | _,_,.oi i s pos b o hi hL',l => by
   rw [PV.low] at l
   by_cases e':i = x
   ·subst e'
    rw [hx] at hi;cases hi
   ·exact .oi i s pos b o ((hM i l e').trans hi) ((hL i l e').trans hL')
theorem LRel.fill:∀ {xs:List PV} {vs:List Value},LRel M L w xs vs → lowL n xs → LRel M2 L2 w xs vs
 | _,_,.nil,_ => .nil
 | _,_,.cons x v xs vs h hs,l => .cons x v xs vs (VRel.fill h (by rw [lowL] at l;exact l.1)) (LRel.fill hs (by rw [lowL] at l;exact l.2))
end
theorem BRel.fill {i j:Nat} {b:Blk} (h:BRel R M L w i b) (l:b.low n) (e:L2 j = L i):BRel R M2 L2 w j b:=by
 cases b with
 | row wr k ver xs =>
  rw [Blk.low] at l
  obtain ⟨h0,h1,h2⟩:=h
  refine ⟨h0,fun b o hb => ?_,fun hb => h2 (e ▸ hb)⟩
  obtain ⟨c,el,vs,g1,g2,g3⟩:=h1 b o (e ▸ hb)
  exact ⟨c,el,vs,g1,LRel.fill hM hx hx2 hL hO g2 ((Ze xs).2 l),g3⟩
 | map es =>
  obtain ⟨b,o,ents,clock,h1,h2⟩:=h
  exact ⟨b,o,ents,clock,e.trans h1,h2⟩
 | loop st pd ts ps a b =>
  rw [Blk.low] at l
  obtain ⟨k,o,r,h1,h2,h3,h4,h5,h6,h7⟩:=h
  exact ⟨k,o,r,e.trans h1,h2,h3,h4,h5,LRel.fill hM hx hx2 hL hO h6 l,h7⟩
 | siter s pos =>
  obtain ⟨b,o,h1,h2⟩:=h
  exact ⟨b,o,e.trans h1,h2⟩
end
theorem BRel.bump {j k v v':Nat} {wr wr':Bool} {xs:List PV} (h:BRel R M L w j (.row wr k v xs)):BRel R M L w j (.row wr' k v' xs):=h
theorem Qgf {M0:List Blk} {L0:Loc} {w0:World} {k x:Nat} {xs:List PV} (E:Evo M0 L0 w0 (M ++ [.row true k 0 xs]) L w) (S:Sim R (M ++ [.row true k 0 xs]) L w) (hM0:M0 = M) (hlow:lowM M.length M) (hxl:lowL M.length xs)
  (hx:M[x]? = some hole):Evo M0 L0 w0 (M.set x (.row true k 1 xs)) (L.upd x (L M.length)) w ∧ Sim R (M.set x (.row true k 1 xs)) (L.upd x (L M.length)) w ∧
   (∀ p c,VRel (M ++ [.row true k 0 xs]) L w p c → p.low M.length → VRel (M.set x (.row true k 1 xs)) (L.upd x (L M.length)) w p c):=by
 have hlt:x < M.length:=(List.getElem?_eq_some_iff.1 hx).1
 have hx1:(M ++ [Blk.row true k 0 xs])[x]? = some hole:=by rw [List.getElem?_append_left hlt];exact hx
 have hx2:(M.set x (.row true k 1 xs))[x]? = some (.row true k 1 xs):=List.getElem?_set_self hlt
 have hN:(M ++ [Blk.row true k 0 xs])[M.length]? = some (.row true k 0 xs):=by simp
 have hM:∀ i,i < M.length → i ≠ x → (M.set x (.row true k 1 xs))[i]? = (M ++ [Blk.row true k 0 xs])[i]?:=by
  intro i hi hne
  rw [List.getElem?_set_ne (Ne.symm hne),List.getElem?_append_left hi]
 have hL:∀ i,i < M.length → i ≠ x → (L.upd x (L M.length)) i = L i:=fun i _ hne => Loc.upd_ne L _ hne
 have get:∀ i b,(M.set x (.row true k 1 xs))[i]? = some b → i < M.length ∧ ((i = x ∧ b = .row true k 1 xs) ∨ (i ≠ x ∧ M[i]? = some b)):=by
  intro i b hi
  have hl:i < M.length:=by have:=(List.getElem?_eq_some_iff.1 hi).1;simpa using this
  refine ⟨hl,?_⟩
  rcases Jn hlt hi with ⟨h1,h2⟩|⟨h1,h2⟩
  ·exact .inl ⟨h1,h2⟩
  ·exact .inr ⟨h1,h2⟩
 have hO:∀ b,Owned (M.set x (.row true k 1 xs)) (L.upd x (L M.length)) b → Owned (M ++ [Blk.row true k 0 xs]) L b:=by
  rintro b ⟨j,bl,p,h1,h2,h3,h4⟩
  obtain ⟨hl,⟨rfl,rfl⟩|⟨hne,hj⟩⟩:=get j bl h1
  ·rw [Loc.upd_self] at h3
   exact ⟨M.length,_,p,hN,rfl,h3,h4⟩
  ·exact ⟨j,bl,p,by rw [List.getElem?_append_left hl];exact hj,h2,by rw [← hL j hl hne];exact h3,h4⟩
 refine ⟨⟨E.os,E.tape,E.output,E.drawn,E.size,fun b h1 h2 => ⟨(E.frame b h1 h2).1,fun h => (E.frame b h1 h2).2 (hO b h)⟩,fun j b hj => ?_⟩,⟨fun j b hj => ?_,fun i j bx bY p q h1 h2 hl hne hp hq => ?_,fun g cs h => ⟨(S.env g cs h).1,fun o => (S.env g cs h).2 (hO g o)⟩⟩,fun p c h l => VRel.fill hM hx1 hx2 hL hO h l⟩
 ·subst hM0
  have hjl:=(List.getElem?_eq_some_iff.1 hj).1
  by_cases e:j = x
  ·subst e
   rw [hx] at hj;cases hj
   exact ⟨_,hx2,by simp [hole,BEvo]⟩
  ·obtain ⟨b',h1,h2⟩:=E.blk j b hj
   refine ⟨b',(hM j hjl e).trans h1,?_⟩
   have hLj:=hL j hjl e
   cases b with
   | row =>
    cases b' with
    | row => exact ⟨h2.1,fun e => by obtain ⟨g1,g2,g3,g4⟩:=h2.2 e;exact ⟨g1,g2,hLj.trans g3,g4⟩⟩
    | _ => exact h2.elim
   | map =>
    cases b' with
    | map => exact Eq.trans hLj h2
    | _ => exact h2.elim
   | loop =>
    cases b' with
    | loop => exact ⟨hLj.trans h2.1,h2.2⟩
    | _ => exact h2.elim
   | siter =>
    cases b' with
    | siter => exact Eq.trans hLj h2
    | _ => exact h2.elim
 ·obtain ⟨hl,⟨rfl,rfl⟩|⟨hne,hj⟩⟩:=get j b hj
  ·exact (BRel.fill hM hx1 hx2 hL hO (S.mem M.length _ hN) (by rw [Blk.low];exact hxl) (Loc.upd_self L _ _)).bump
  ·exact BRel.fill hM hx1 hx2 hL hO (S.mem j b (by rw [List.getElem?_append_left hl];exact hj)) (hlow b (List.mem_of_getElem? hj)) (hL j hl hne)
 ·obtain ⟨hli,⟨rfl,rfl⟩|⟨hnei,hi⟩⟩:=get i bx h1
  ·obtain ⟨hlj,⟨rfl,rfl⟩|⟨hnej,hj⟩⟩:=get j bY h2
   ·exact absurd rfl hne
   ·rw [Loc.upd_self] at hp;rw [hL j hlj hnej] at hq
    exact S.inj M.length j _ bY p q hN (by rw [List.getElem?_append_left hlj];exact hj) hl (by omega) hp hq
  ·obtain ⟨hlj,⟨rfl,rfl⟩|⟨hnej,hj⟩⟩:=get j bY h2
   ·rw [hL i hli hnei] at hp;rw [Loc.upd_self] at hq
    exact S.inj i M.length bx _ p q (by rw [List.getElem?_append_left hli];exact hi) hN hl (by omega) hp hq
   ·rw [hL i hli hnei] at hp;rw [hL j hlj hnej] at hq
    exact S.inj i j bx bY p q (by rw [List.getElem?_append_left hli];exact hi) (by rw [List.getElem?_append_left hlj];exact hj) hl hne hp hq
theorem Qf5 (S:Sim R M L w) (k:Nat):∃ L',Evo M L w (M ++ List.replicate k hole) L' w ∧ Sim R (M ++ List.replicate k hole) L' w:=by
 induction k with
 | zero => exact ⟨L,by simpa using Evo.refl M L w,by simpa using S⟩
 | succ k ih =>
  obtain ⟨L1,E1,S1⟩:=ih
  obtain ⟨E2,S2⟩:=push S1 hole none (w':=w) ⟨rfl,rfl,rfl,(by first|exact Nat.le_refl _|exact Nat.le_succ _|simp)⟩ rfl (by
   rintro _ _ rfl rfl E
   exact ⟨by simp,fun b q hL => by simp [Loc.upd_self] at hL,fun _ => rfl⟩)
  rw [List.replicate_succ',← List.append_assoc]
  exact ⟨_,E1.trans E2,S2⟩
end
end Go.Nac
