/- What the parts of a message read as, to any depth. Conditions: none beyond each lemma's own. The walks of bytes.Equal, and of slices.Equal of numbers and of texts. Conditions: none. -/
import Derived.Test.YtcebcncpbedkmaaGreatZMsgA
import Derived.Test.YtcebcncpbedkmaaGreatZOutG
import Derived.Test.YtcebcncpbedkmaaGreatZHelA
import Derived.Shelf.Bytes.SlEqualAll
namespace Go.Proofs.YtcebcncpbedkmaaGreat
open Go.RowKit
set_option maxRecDepth 100000
set_option maxHeartbeats 4000000

/-- A text, as a cell. -/
def TextR (_ : World) (x : List UInt8) (c : List Value) : Prop := ∃ s : ByteArray, c = [.string s] ∧ s.toList = x
theorem TextR.lasts : Lasts TextR := fun _ _ _ _ _ h => h
/-- A row of numbers, as a cell. -/
def NumsR (w : World) (x : List Int) (c : List Value) : Prop := ∃ v, c = [v] ∧ Ints .u64 w v x
theorem NumsR.lasts : Lasts NumsR := fun _ _ _ _ hb ⟨v, h1, h2⟩ => ⟨v, h1, h2.below hb⟩
theorem fit_texts {w : World} {v : Value} (h : Fit Tryz.prog w 42 v) : ∃ l, RowsOf TextR 1 w v l := by
  refine rows_of_fit h Tryz.underlying42 (by kernel_rfl) (by decide) (fun u f => ?_)
  obtain ⟨s, es, -⟩ := (f 0 9 (by kernel_rfl) (by kernel_rfl)).asText Tryz.underlying9
  exact ⟨s.toList, s, by rw [show (List.range 1).map u = [u 0] from rfl, es], rfl⟩
theorem fit_rows {w : World} {v : Value} (h : Fit Tryz.prog w 43 v) : ∃ l, RowsOf NumsR 1 w v l := by
  refine rows_of_fit h Tryz.underlying43 (by kernel_rfl) (by decide) (fun u f => ?_)
  obtain ⟨bs, hb⟩ := (f 0 23 (by kernel_rfl) (by kernel_rfl)).ints Tryz.underlying23 Tryz.underlying68 (by kernel_rfl)
  exact ⟨bs, u 0, rfl, hb⟩

/-! ### Oxm -/
abbrev OxmV := Int × Int × Bool × Int × List Int × List Int
instance decOxm3 : DecidableEq (Int × List Int × List Int) := inferInstance
instance decOxm1 : DecidableEq (Int × Bool × Int × List Int × List Int) := inferInstance
instance decOxm : DecidableEq OxmV := inferInstance
def OxmR (w : World) (x : OxmV) (c : List Value) : Prop := ∃ (vva : Value) (vma : Value), c = [.int .i64 x.1, .int .i64 x.2.1, .bool x.2.2.1, .int .u64 x.2.2.2.1, vva, vma] ∧ Ints .u8 w vva x.2.2.2.2.1 ∧ Ints .u8 w vma x.2.2.2.2.2
theorem OxmR.lasts : Lasts OxmR := fun _ _ _ _ hb ⟨vva, vma, he, h0, h1⟩ => ⟨vva, vma, he, h0.below hb, h1.below hb⟩
theorem fit_Oxms {w : World} {v : Value} (h : Fit Tryz.prog w 26 v) : ∃ l, RowsOf OxmR 6 w v l := by
  refine rows_of_fit h Tryz.underlying26 (by kernel_rfl) (by decide) (fun u f => ?_)
  obtain ⟨kcl, ekcl, -⟩ := (f 0 3 (by kernel_rfl) (by kernel_rfl)).asInt Tryz.underlying3
  obtain ⟨kfi, ekfi, -⟩ := (f 1 3 (by kernel_rfl) (by kernel_rfl)).asInt Tryz.underlying3
  obtain ⟨kha, ekha⟩ := (f 2 4 (by kernel_rfl) (by kernel_rfl)).asBool Tryz.underlying4
  obtain ⟨kex, ekex, -⟩ := (f 3 68 (by kernel_rfl) (by kernel_rfl)).asInt Tryz.underlying68
  obtain ⟨kva, hkva⟩ := (f 4 24 (by kernel_rfl) (by kernel_rfl)).ints Tryz.underlying24 Tryz.underlying5 (by kernel_rfl)
  obtain ⟨kma, hkma⟩ := (f 5 24 (by kernel_rfl) (by kernel_rfl)).ints Tryz.underlying24 Tryz.underlying5 (by kernel_rfl)
  exact ⟨(kcl, kfi, kha, kex, kva, kma), u 4, u 5, by rw [show (List.range 6).map u = [u 0, u 1, u 2, u 3, u 4, u 5] from rfl, ekcl, ekfi, ekha, ekex], hkva, hkma⟩

/-! ### Act -/
abbrev ActV := Int × Int × Int × OxmV × List Int
instance decAct2 : DecidableEq (Int × OxmV × List Int) := inferInstance
instance decAct : DecidableEq ActV := inferInstance
def ActR (w : World) (x : ActV) (c : List Value) : Prop := ∃ (vseva : Value) (vsema : Value) (vda : Value), c = [.int .i64 x.1, .int .u64 x.2.1, .int .u64 x.2.2.1, .int .i64 x.2.2.2.1.1, .int .i64 x.2.2.2.1.2.1, .bool x.2.2.2.1.2.2.1, .int .u64 x.2.2.2.1.2.2.2.1, vseva, vsema, vda] ∧ Ints .u8 w vseva x.2.2.2.1.2.2.2.2.1 ∧ Ints .u8 w vsema x.2.2.2.1.2.2.2.2.2 ∧ Ints .u8 w vda x.2.2.2.2
theorem ActR.lasts : Lasts ActR := fun _ _ _ _ hb ⟨vseva, vsema, vda, he, h0, h1, h2⟩ => ⟨vseva, vsema, vda, he, h0.below hb, h1.below hb, h2.below hb⟩
theorem fit_Acts {w : World} {v : Value} (h : Fit Tryz.prog w 27 v) : ∃ l, RowsOf ActR 10 w v l := by
  refine rows_of_fit h Tryz.underlying27 (by kernel_rfl) (by decide) (fun u f => ?_)
  obtain ⟨kty, ekty, -⟩ := (f 0 3 (by kernel_rfl) (by kernel_rfl)).asInt Tryz.underlying3
  obtain ⟨ka, eka, -⟩ := (f 1 68 (by kernel_rfl) (by kernel_rfl)).asInt Tryz.underlying68
  obtain ⟨kb, ekb, -⟩ := (f 2 68 (by kernel_rfl) (by kernel_rfl)).asInt Tryz.underlying68
  obtain ⟨ksecl, eksecl, -⟩ := (f 3 3 (by kernel_rfl) (by kernel_rfl)).asInt Tryz.underlying3
  obtain ⟨ksefi, eksefi, -⟩ := (f 4 3 (by kernel_rfl) (by kernel_rfl)).asInt Tryz.underlying3
  obtain ⟨kseha, ekseha⟩ := (f 5 4 (by kernel_rfl) (by kernel_rfl)).asBool Tryz.underlying4
  obtain ⟨kseex, ekseex, -⟩ := (f 6 68 (by kernel_rfl) (by kernel_rfl)).asInt Tryz.underlying68
  obtain ⟨kseva, hkseva⟩ := (f 7 24 (by kernel_rfl) (by kernel_rfl)).ints Tryz.underlying24 Tryz.underlying5 (by kernel_rfl)
  obtain ⟨ksema, hksema⟩ := (f 8 24 (by kernel_rfl) (by kernel_rfl)).ints Tryz.underlying24 Tryz.underlying5 (by kernel_rfl)
  obtain ⟨kda, hkda⟩ := (f 9 24 (by kernel_rfl) (by kernel_rfl)).ints Tryz.underlying24 Tryz.underlying5 (by kernel_rfl)
  exact ⟨(kty, ka, kb, (ksecl, ksefi, kseha, kseex, kseva, ksema), kda), u 7, u 8, u 9, by rw [show (List.range 10).map u = [u 0, u 1, u 2, u 3, u 4, u 5, u 6, u 7, u 8, u 9] from rfl, ekty, eka, ekb, eksecl, eksefi, ekseha, ekseex], hkseva, hksema, hkda⟩

/-! ### Ins -/
abbrev InsV := Int × Int × Int × List ActV × List Int
instance decIns2 : DecidableEq (Int × List ActV × List Int) := inferInstance
instance decIns : DecidableEq InsV := inferInstance
def InsR (w : World) (x : InsV) (c : List Value) : Prop := ∃ (vac : Value) (vda : Value), c = [.int .i64 x.1, .int .u64 x.2.1, .int .u64 x.2.2.1, vac, vda] ∧ RowsOf ActR 10 w vac x.2.2.2.1 ∧ Ints .u8 w vda x.2.2.2.2
theorem InsR.lasts : Lasts InsR := fun _ _ _ _ hb ⟨vac, vda, he, h0, h1⟩ => ⟨vac, vda, he, h0.below ActR.lasts hb, h1.below hb⟩
theorem fit_Inss {w : World} {v : Value} (h : Fit Tryz.prog w 28 v) : ∃ l, RowsOf InsR 5 w v l := by
  refine rows_of_fit h Tryz.underlying28 (by kernel_rfl) (by decide) (fun u f => ?_)
  obtain ⟨kty, ekty, -⟩ := (f 0 3 (by kernel_rfl) (by kernel_rfl)).asInt Tryz.underlying3
  obtain ⟨ka, eka, -⟩ := (f 1 68 (by kernel_rfl) (by kernel_rfl)).asInt Tryz.underlying68
  obtain ⟨kb, ekb, -⟩ := (f 2 68 (by kernel_rfl) (by kernel_rfl)).asInt Tryz.underlying68
  obtain ⟨kac, hkac⟩ := fit_Acts (f 3 27 (by kernel_rfl) (by kernel_rfl))
  obtain ⟨kda, hkda⟩ := (f 4 24 (by kernel_rfl) (by kernel_rfl)).ints Tryz.underlying24 Tryz.underlying5 (by kernel_rfl)
  exact ⟨(kty, ka, kb, kac, kda), u 3, u 4, by rw [show (List.range 5).map u = [u 0, u 1, u 2, u 3, u 4] from rfl, ekty, eka, ekb], hkac, hkda⟩

/-! ### Bucket -/
abbrev BucketV := Int × Int × Int × List ActV
instance decBucket1 : DecidableEq (Int × Int × List ActV) := inferInstance
instance decBucket : DecidableEq BucketV := inferInstance
def BucketR (w : World) (x : BucketV) (c : List Value) : Prop := ∃ (vac : Value), c = [.int .u64 x.1, .int .u64 x.2.1, .int .u64 x.2.2.1, vac] ∧ RowsOf ActR 10 w vac x.2.2.2
theorem BucketR.lasts : Lasts BucketR := fun _ _ _ _ hb ⟨vac, he, h0⟩ => ⟨vac, he, h0.below ActR.lasts hb⟩
theorem fit_Buckets {w : World} {v : Value} (h : Fit Tryz.prog w 29 v) : ∃ l, RowsOf BucketR 4 w v l := by
  refine rows_of_fit h Tryz.underlying29 (by kernel_rfl) (by decide) (fun u f => ?_)
  obtain ⟨kwe, ekwe, -⟩ := (f 0 68 (by kernel_rfl) (by kernel_rfl)).asInt Tryz.underlying68
  obtain ⟨kpo, ekpo, -⟩ := (f 1 68 (by kernel_rfl) (by kernel_rfl)).asInt Tryz.underlying68
  obtain ⟨kgr, ekgr, -⟩ := (f 2 68 (by kernel_rfl) (by kernel_rfl)).asInt Tryz.underlying68
  obtain ⟨kac, hkac⟩ := fit_Acts (f 3 27 (by kernel_rfl) (by kernel_rfl))
  exact ⟨(kwe, kpo, kgr, kac), u 3, by rw [show (List.range 4).map u = [u 0, u 1, u 2, u 3] from rfl, ekwe, ekpo, ekgr], hkac⟩

/-! ### Band -/
abbrev BandV := Int × Int × Int × Int × List Int
instance decBand2 : DecidableEq (Int × Int × List Int) := inferInstance
instance decBand : DecidableEq BandV := inferInstance
def BandR (w : World) (x : BandV) (c : List Value) : Prop := ∃ (vda : Value), c = [.int .i64 x.1, .int .u64 x.2.1, .int .u64 x.2.2.1, .int .u64 x.2.2.2.1, vda] ∧ Ints .u8 w vda x.2.2.2.2
theorem BandR.lasts : Lasts BandR := fun _ _ _ _ hb ⟨vda, he, h0⟩ => ⟨vda, he, h0.below hb⟩
theorem fit_Bands {w : World} {v : Value} (h : Fit Tryz.prog w 30 v) : ∃ l, RowsOf BandR 5 w v l := by
  refine rows_of_fit h Tryz.underlying30 (by kernel_rfl) (by decide) (fun u f => ?_)
  obtain ⟨kty, ekty, -⟩ := (f 0 3 (by kernel_rfl) (by kernel_rfl)).asInt Tryz.underlying3
  obtain ⟨kra, ekra, -⟩ := (f 1 68 (by kernel_rfl) (by kernel_rfl)).asInt Tryz.underlying68
  obtain ⟨kbu, ekbu, -⟩ := (f 2 68 (by kernel_rfl) (by kernel_rfl)).asInt Tryz.underlying68
  obtain ⟨ka, eka, -⟩ := (f 3 68 (by kernel_rfl) (by kernel_rfl)).asInt Tryz.underlying68
  obtain ⟨kda, hkda⟩ := (f 4 24 (by kernel_rfl) (by kernel_rfl)).ints Tryz.underlying24 Tryz.underlying5 (by kernel_rfl)
  exact ⟨(kty, kra, kbu, ka, kda), u 4, by rw [show (List.range 5).map u = [u 0, u 1, u 2, u 3, u 4] from rfl, ekty, ekra, ekbu, eka], hkda⟩

/-! ### Prop -/
abbrev PropV := Int × Int × List Int
instance decProp : DecidableEq PropV := inferInstance
def PropR (w : World) (x : PropV) (c : List Value) : Prop := ∃ (vda : Value), c = [.int .i64 x.1, .int .u64 x.2.1, vda] ∧ Ints .u8 w vda x.2.2
theorem PropR.lasts : Lasts PropR := fun _ _ _ _ hb ⟨vda, he, h0⟩ => ⟨vda, he, h0.below hb⟩
theorem fit_Props {w : World} {v : Value} (h : Fit Tryz.prog w 92 v) : ∃ l, RowsOf PropR 3 w v l := by
  refine rows_of_fit h Tryz.underlying92 (by kernel_rfl) (by decide) (fun u f => ?_)
  obtain ⟨kty, ekty, -⟩ := (f 0 3 (by kernel_rfl) (by kernel_rfl)).asInt Tryz.underlying3
  obtain ⟨ka, eka, -⟩ := (f 1 68 (by kernel_rfl) (by kernel_rfl)).asInt Tryz.underlying68
  obtain ⟨kda, hkda⟩ := (f 2 24 (by kernel_rfl) (by kernel_rfl)).ints Tryz.underlying24 Tryz.underlying5 (by kernel_rfl)
  exact ⟨(kty, ka, kda), u 2, by rw [show (List.range 3).map u = [u 0, u 1, u 2] from rfl, ekty, eka], hkda⟩

/-! ### Queue -/
abbrev QueueV := Int × Int × List PropV
instance decQueue : DecidableEq QueueV := inferInstance
def QueueR (w : World) (x : QueueV) (c : List Value) : Prop := ∃ (vpr : Value), c = [.int .u64 x.1, .int .u64 x.2.1, vpr] ∧ RowsOf PropR 3 w vpr x.2.2
theorem QueueR.lasts : Lasts QueueR := fun _ _ _ _ hb ⟨vpr, he, h0⟩ => ⟨vpr, he, h0.below PropR.lasts hb⟩
theorem fit_Queues {w : World} {v : Value} (h : Fit Tryz.prog w 31 v) : ∃ l, RowsOf QueueR 3 w v l := by
  refine rows_of_fit h Tryz.underlying31 (by kernel_rfl) (by decide) (fun u f => ?_)
  obtain ⟨kid, ekid, -⟩ := (f 0 68 (by kernel_rfl) (by kernel_rfl)).asInt Tryz.underlying68
  obtain ⟨kpo, ekpo, -⟩ := (f 1 68 (by kernel_rfl) (by kernel_rfl)).asInt Tryz.underlying68
  obtain ⟨kpr, hkpr⟩ := fit_Props (f 2 92 (by kernel_rfl) (by kernel_rfl))
  exact ⟨(kid, kpo, kpr), u 2, by rw [show (List.range 3).map u = [u 0, u 1, u 2] from rfl, ekid, ekpo], hkpr⟩

/-! ### Port -/
abbrev PortV := Int × Int × List UInt8 × List Int
instance decPort1 : DecidableEq (Int × List UInt8 × List Int) := inferInstance
instance decPort : DecidableEq PortV := inferInstance
def PortR (_ : World) (x : PortV) (c : List Value) : Prop := ∃ (vna : ByteArray) (vnu0 vnu1 vnu2 vnu3 vnu4 vnu5 vnu6 vnu7 : Int), c = [.int .u64 x.1, .int .u64 x.2.1, .string vna, .int .u64 vnu0, .int .u64 vnu1, .int .u64 vnu2, .int .u64 vnu3, .int .u64 vnu4, .int .u64 vnu5, .int .u64 vnu6, .int .u64 vnu7] ∧ vna.toList = x.2.2.1 ∧ x.2.2.2 = [vnu0, vnu1, vnu2, vnu3, vnu4, vnu5, vnu6, vnu7]
theorem PortR.lasts : Lasts PortR := fun _ _ _ _ _ ⟨vna, vnu0, vnu1, vnu2, vnu3, vnu4, vnu5, vnu6, vnu7, he, h0, h1⟩ => ⟨vna, vnu0, vnu1, vnu2, vnu3, vnu4, vnu5, vnu6, vnu7, he, h0, h1⟩
theorem fit_Ports {w : World} {v : Value} (h : Fit Tryz.prog w 32 v) : ∃ l, RowsOf PortR 11 w v l := by
  refine rows_of_fit h Tryz.underlying32 (by kernel_rfl) (by decide) (fun u f => ?_)
  obtain ⟨kno, ekno, -⟩ := (f 0 68 (by kernel_rfl) (by kernel_rfl)).asInt Tryz.underlying68
  obtain ⟨khw, ekhw, -⟩ := (f 1 68 (by kernel_rfl) (by kernel_rfl)).asInt Tryz.underlying68
  obtain ⟨kna, ekna, -⟩ := (f 2 9 (by kernel_rfl) (by kernel_rfl)).asText Tryz.underlying9
  obtain ⟨knu0, eknu0, -⟩ := (f 3 68 (by kernel_rfl) (by kernel_rfl)).asInt Tryz.underlying68
  obtain ⟨knu1, eknu1, -⟩ := (f 4 68 (by kernel_rfl) (by kernel_rfl)).asInt Tryz.underlying68
  obtain ⟨knu2, eknu2, -⟩ := (f 5 68 (by kernel_rfl) (by kernel_rfl)).asInt Tryz.underlying68
  obtain ⟨knu3, eknu3, -⟩ := (f 6 68 (by kernel_rfl) (by kernel_rfl)).asInt Tryz.underlying68
  obtain ⟨knu4, eknu4, -⟩ := (f 7 68 (by kernel_rfl) (by kernel_rfl)).asInt Tryz.underlying68
  obtain ⟨knu5, eknu5, -⟩ := (f 8 68 (by kernel_rfl) (by kernel_rfl)).asInt Tryz.underlying68
  obtain ⟨knu6, eknu6, -⟩ := (f 9 68 (by kernel_rfl) (by kernel_rfl)).asInt Tryz.underlying68
  obtain ⟨knu7, eknu7, -⟩ := (f 10 68 (by kernel_rfl) (by kernel_rfl)).asInt Tryz.underlying68
  exact ⟨(kno, khw, kna.toList, [knu0, knu1, knu2, knu3, knu4, knu5, knu6, knu7]), kna, knu0, knu1, knu2, knu3, knu4, knu5, knu6, knu7, by rw [show (List.range 11).map u = [u 0, u 1, u 2, u 3, u 4, u 5, u 6, u 7, u 8, u 9, u 10] from rfl, ekno, ekhw, ekna, eknu0, eknu1, eknu2, eknu3, eknu4, eknu5, eknu6, eknu7], rfl, rfl⟩

/-! ### Feat -/
abbrev FeatV := Int × List Int × List Int
instance decFeat : DecidableEq FeatV := inferInstance
def FeatR (w : World) (x : FeatV) (c : List Value) : Prop := ∃ (vnu : Value) (vda : Value), c = [.int .i64 x.1, vnu, vda] ∧ Ints .u64 w vnu x.2.1 ∧ Ints .u8 w vda x.2.2
theorem FeatR.lasts : Lasts FeatR := fun _ _ _ _ hb ⟨vnu, vda, he, h0, h1⟩ => ⟨vnu, vda, he, h0.below hb, h1.below hb⟩
theorem fit_Feats {w : World} {v : Value} (h : Fit Tryz.prog w 141 v) : ∃ l, RowsOf FeatR 3 w v l := by
  refine rows_of_fit h Tryz.underlying141 (by kernel_rfl) (by decide) (fun u f => ?_)
  obtain ⟨kty, ekty, -⟩ := (f 0 3 (by kernel_rfl) (by kernel_rfl)).asInt Tryz.underlying3
  obtain ⟨knu, hknu⟩ := (f 1 23 (by kernel_rfl) (by kernel_rfl)).ints Tryz.underlying23 Tryz.underlying68 (by kernel_rfl)
  obtain ⟨kda, hkda⟩ := (f 2 24 (by kernel_rfl) (by kernel_rfl)).ints Tryz.underlying24 Tryz.underlying5 (by kernel_rfl)
  exact ⟨(kty, knu, kda), u 1, u 2, by rw [show (List.range 3).map u = [u 0, u 1, u 2] from rfl, ekty], hknu, hkda⟩

/-! ### Table -/
abbrev TableV := Int × List UInt8 × Int × Int × Int × Int × List FeatV
instance decTable4 : DecidableEq (Int × Int × List FeatV) := inferInstance
instance decTable2 : DecidableEq (Int × Int × Int × Int × List FeatV) := inferInstance
instance decTable : DecidableEq TableV := inferInstance
def TableR (w : World) (x : TableV) (c : List Value) : Prop := ∃ (vna : ByteArray) (vfe : Value), c = [.int .u64 x.1, .string vna, .int .u64 x.2.2.1, .int .u64 x.2.2.2.1, .int .u64 x.2.2.2.2.1, .int .u64 x.2.2.2.2.2.1, vfe] ∧ vna.toList = x.2.1 ∧ RowsOf FeatR 3 w vfe x.2.2.2.2.2.2
theorem TableR.lasts : Lasts TableR := fun _ _ _ _ hb ⟨vna, vfe, he, h0, h1⟩ => ⟨vna, vfe, he, h0, h1.below FeatR.lasts hb⟩
theorem fit_Tables {w : World} {v : Value} (h : Fit Tryz.prog w 44 v) : ∃ l, RowsOf TableR 7 w v l := by
  refine rows_of_fit h Tryz.underlying44 (by kernel_rfl) (by decide) (fun u f => ?_)
  obtain ⟨kid, ekid, -⟩ := (f 0 68 (by kernel_rfl) (by kernel_rfl)).asInt Tryz.underlying68
  obtain ⟨kna, ekna, -⟩ := (f 1 9 (by kernel_rfl) (by kernel_rfl)).asText Tryz.underlying9
  obtain ⟨km, ekm, -⟩ := (f 2 68 (by kernel_rfl) (by kernel_rfl)).asInt Tryz.underlying68
  obtain ⟨kwr, ekwr, -⟩ := (f 3 68 (by kernel_rfl) (by kernel_rfl)).asInt Tryz.underlying68
  obtain ⟨kcf, ekcf, -⟩ := (f 4 68 (by kernel_rfl) (by kernel_rfl)).asInt Tryz.underlying68
  obtain ⟨kmx, ekmx, -⟩ := (f 5 68 (by kernel_rfl) (by kernel_rfl)).asInt Tryz.underlying68
  obtain ⟨kfe, hkfe⟩ := fit_Feats (f 6 141 (by kernel_rfl) (by kernel_rfl))
  exact ⟨(kid, kna.toList, km, kwr, kcf, kmx, kfe), kna, u 6, by rw [show (List.range 7).map u = [u 0, u 1, u 2, u 3, u 4, u 5, u 6] from rfl, ekid, ekna, ekm, ekwr, ekcf, ekmx], rfl, hkfe⟩

/-! ### Part -/
abbrev PartV := List Int × List (List UInt8) × List OxmV × List InsV × List BucketV × List BandV × List (List Int) × List PortV × List TableV × List Int
instance decPart7 : DecidableEq (List PortV × List TableV × List Int) := inferInstance
instance decPart5 : DecidableEq (List BandV × List (List Int) × List PortV × List TableV × List Int) := inferInstance
instance decPart3 : DecidableEq (List InsV × List BucketV × List BandV × List (List Int) × List PortV × List TableV × List Int) := inferInstance
instance decPart1 : DecidableEq (List (List UInt8) × List OxmV × List InsV × List BucketV × List BandV × List (List Int) × List PortV × List TableV × List Int) := inferInstance
instance decPart : DecidableEq PartV := inferInstance
def PartR (w : World) (x : PartV) (c : List Value) : Prop := ∃ (vnu : Value) (vte : Value) (vma : Value) (vin : Value) (vbu : Value) (vba : Value) (vro : Value) (vpo : Value) (vta : Value) (vda : Value), c = [vnu, vte, vma, vin, vbu, vba, vro, vpo, vta, vda] ∧ Ints .u64 w vnu x.1 ∧ RowsOf TextR 1 w vte x.2.1 ∧ RowsOf OxmR 6 w vma x.2.2.1 ∧ RowsOf InsR 5 w vin x.2.2.2.1 ∧ RowsOf BucketR 4 w vbu x.2.2.2.2.1 ∧ RowsOf BandR 5 w vba x.2.2.2.2.2.1 ∧ RowsOf NumsR 1 w vro x.2.2.2.2.2.2.1 ∧ RowsOf PortR 11 w vpo x.2.2.2.2.2.2.2.1 ∧ RowsOf TableR 7 w vta x.2.2.2.2.2.2.2.2.1 ∧ Ints .u8 w vda x.2.2.2.2.2.2.2.2.2
theorem PartR.lasts : Lasts PartR := fun _ _ _ _ hb ⟨vnu, vte, vma, vin, vbu, vba, vro, vpo, vta, vda, he, h0, h1, h2, h3, h4, h5, h6, h7, h8, h9⟩ => ⟨vnu, vte, vma, vin, vbu, vba, vro, vpo, vta, vda, he, h0.below hb, h1.below TextR.lasts hb, h2.below OxmR.lasts hb, h3.below InsR.lasts hb, h4.below BucketR.lasts hb, h5.below BandR.lasts hb, h6.below NumsR.lasts hb, h7.below PortR.lasts hb, h8.below TableR.lasts hb, h9.below hb⟩
theorem fit_Parts {w : World} {v : Value} (h : Fit Tryz.prog w 33 v) : ∃ l, RowsOf PartR 10 w v l := by
  refine rows_of_fit h Tryz.underlying33 (by kernel_rfl) (by decide) (fun u f => ?_)
  obtain ⟨knu, hknu⟩ := (f 0 23 (by kernel_rfl) (by kernel_rfl)).ints Tryz.underlying23 Tryz.underlying68 (by kernel_rfl)
  obtain ⟨kte, hkte⟩ := fit_texts (f 1 42 (by kernel_rfl) (by kernel_rfl))
  obtain ⟨kma, hkma⟩ := fit_Oxms (f 2 26 (by kernel_rfl) (by kernel_rfl))
  obtain ⟨kin, hkin⟩ := fit_Inss (f 3 28 (by kernel_rfl) (by kernel_rfl))
  obtain ⟨kbu, hkbu⟩ := fit_Buckets (f 4 29 (by kernel_rfl) (by kernel_rfl))
  obtain ⟨kba, hkba⟩ := fit_Bands (f 5 30 (by kernel_rfl) (by kernel_rfl))
  obtain ⟨kro, hkro⟩ := fit_rows (f 6 43 (by kernel_rfl) (by kernel_rfl))
  obtain ⟨kpo, hkpo⟩ := fit_Ports (f 7 32 (by kernel_rfl) (by kernel_rfl))
  obtain ⟨kta, hkta⟩ := fit_Tables (f 8 44 (by kernel_rfl) (by kernel_rfl))
  obtain ⟨kda, hkda⟩ := (f 9 24 (by kernel_rfl) (by kernel_rfl)).ints Tryz.underlying24 Tryz.underlying5 (by kernel_rfl)
  exact ⟨(knu, kte, kma, kin, kbu, kba, kro, kpo, kta, kda), u 0, u 1, u 2, u 3, u 4, u 5, u 6, u 7, u 8, u 9, rfl, hknu, hkte, hkma, hkin, hkbu, hkba, hkro, hkpo, hkta, hkda⟩

/-! ### a message's other lists -/
structure RestV where
  oxms : List OxmV
  acts : List ActV
  inss : List InsV
  bucks : List BucketV
  bands : List BandV
  ques : List QueueV
  ports : List PortV
  parts : List PartV
structure RestR (w : World) (L : Lens) (r : RestV) : Prop where
  h5 : RowsOf OxmR 6 w (.slice L.a5 L.n5 L.c5) r.oxms
  h6 : RowsOf ActR 10 w (.slice L.a6 L.n6 L.c6) r.acts
  h7 : RowsOf InsR 5 w (.slice L.a7 L.n7 L.c7) r.inss
  h8 : RowsOf BucketR 4 w (.slice L.a8 L.n8 L.c8) r.bucks
  h9 : RowsOf BandR 5 w (.slice L.a9 L.n9 L.c9) r.bands
  h10 : RowsOf QueueR 3 w (.slice L.a10 L.n10 L.c10) r.ques
  h11 : RowsOf PortR 11 w (.slice L.a11 L.n11 L.c11) r.ports
  h14 : RowsOf PartR 10 w (.slice L.a14 L.n14 L.c14) r.parts
theorem RestR.below {w w' : World} {L : Lens} {r : RestV} (h : RestR w L r) (hb : Below w.heap.size w w') : RestR w' L r :=
  ⟨h.h5.below OxmR.lasts hb, h.h6.below ActR.lasts hb, h.h7.below InsR.lasts hb, h.h8.below BucketR.lasts hb, h.h9.below BandR.lasts hb, h.h10.below QueueR.lasts hb, h.h11.below PortR.lasts hb, h.h14.below PartR.lasts hb⟩
theorem rest_of_fits {w : World} {L : Lens} (h : FitsL w L) : ∃ r, RestR w L r := by
  obtain ⟨l5, k5⟩ := fit_Oxms h.h5
  obtain ⟨l6, k6⟩ := fit_Acts h.h6
  obtain ⟨l7, k7⟩ := fit_Inss h.h7
  obtain ⟨l8, k8⟩ := fit_Buckets h.h8
  obtain ⟨l9, k9⟩ := fit_Bands h.h9
  obtain ⟨l10, k10⟩ := fit_Queues h.h10
  obtain ⟨l11, k11⟩ := fit_Ports h.h11
  obtain ⟨l14, k14⟩ := fit_Parts h.h14
  exact ⟨⟨l5, l6, l7, l8, l9, l10, l11, l14⟩, k5, k6, k7, k8, k9, k10, k11, k14⟩
end Go.Proofs.YtcebcncpbedkmaaGreat
namespace Go.Proofs.YtcebcncpbedkmaaGreat
open Go Go.RowKit
set_option maxRecDepth 100000
set_option maxHeartbeats 4000000

theorem conv_ints {w : World} {a : Option Addr} {n c : Nat} {xs : List Int} (h : Ints .u8 w (.slice a n c) xs) : (convert 24 9 (.slice a n c)).run Tryz.prog w = .ok (.string (strOfNums xs)) w := by
  obtain ⟨a', c', b, off, he, -, -, -, h4, h5⟩ := h.open
  injection he with e1 e2 e3
  subst e1 e2 e3
  exact Lib.BytesIn.convert (fun hn => ⟨b, off, h4 hn, h5⟩) rfl c 24 5 9 Tryz.underlying24 Tryz.underlying5 Tryz.underlying9
theorem bytesOf_inj {xs ys : List Int} (hx : U8 xs) (hy : U8 ys) : (Lib.bytesOf xs == Lib.bytesOf ys) = decide (xs = ys) := by
  rw [Bool.eq_iff_iff, beq_iff_eq, decide_eq_true_eq]
  refine ⟨fun h => ?_, fun h => by rw [h]⟩
  unfold Lib.bytesOf at h
  induction xs generalizing ys with
  | nil => cases ys with | nil => rfl | cons y ys => simp at h
  | cons x xs ih =>
    cases ys with
    | nil => simp at h
    | cons y ys =>
      simp only [List.map_cons, List.cons.injEq] at h
      have h1 := hx x (by simp)
      have h2 := hy y (by simp)
      have h3 : x = y := by
        have := congrArg UInt8.toNat h.1
        simp only [UInt8.toNat_ofNat'] at this
        omega
      rw [h3, ih (fun z hz => hx z (by simp [hz])) (fun z hz => hy z (by simp [hz])) h.2]
theorem bytes_equal {v1 v2 : Value} {xs ys : List Int} {w : World} (h1 : Ints .u8 w v1 xs) (h2 : Ints .u8 w v2 ys) :
    Calls Tryz.prog 25 #[v1, v2] w fun e w' => e = .returned (.bool (decide (xs = ys))) ∧ w = w' := by
  have hu1 := h1.u8
  have hu2 := h2.u8
  have HE := Lib.hid (bytesOf_inj hu1 hu2)
  obtain ⟨a1, c1, b1, o1, rfl, -⟩ := h1.open
  obtain ⟨a2, c2, b2, o2, rfl, -⟩ := h2.open
  have k1 := conv_ints h1
  have k2 := conv_ints h2
  clear h1 h2 hu1 hu2
  go_enter Tryz.func25, Tryz.ntmps25
  go_wp2_with fail
  go_ret
  refine ⟨?_, rfl⟩
  rw [← HE.out, ← Lib.strOfNums_toList, ← Lib.strOfNums_toList]
  rfl
theorem bytes_eq {v1 v2 : Value} {xs ys : List Int} {w : World} (h1 : Ints .u8 w v1 xs) (h2 : Ints .u8 w v2 ys) : Calls Tryz.prog 25 #[v1, v2] w (GotEq (decide (xs = ys)) w) :=
  (bytes_equal h1 h2).mono fun _ _ h => ⟨h.1, h.2 ▸ Below.refl _ _⟩
/-- What such a slice gives to a walk. -/
theorem rows_open {α : Type} {R : World → α → List Value → Prop} {C : Nat} {w : World} {v : Value} {l : List α} (h : RowsOf R C w v l) :
    ∃ a cap b off, v = .slice a l.length cap ∧ l.length ≤ maxLen ∧ (0 < l.length → a = some ⟨b, off, none⟩) ∧ ∀ i x, l[i]? = some x → ∃ c : List Value, R w x c ∧ ∀ j u, c[j]? = some u → w.cell? ⟨b, off + i * C + j, none⟩ = some u := by
  obtain ⟨a, cap, b, off, h1, h2, h3, h4, h5, h6⟩ := h
  exact ⟨a, cap, b, off, h1, by omega, h5, fun i x hi => by obtain ⟨c, -, k1, k2⟩ := h6 i x hi; exact ⟨c, k1, k2⟩⟩

theorem nums_eq {v1 v2 : Value} {xs ys : List Int} {w : World} (h1 : Ints .u64 w v1 xs) (h2 : Ints .u64 w v2 ys) : Calls Tryz.prog 24 #[v1, v2] w (GotEq (decide (xs = ys)) w) := by
  unfold GotEq
  have hle := h1.le
  obtain ⟨a, cap, b, off, rfl, -, -, -, ha, hc⟩ := h1.open
  obtain ⟨a2, cap2, b2, off2, rfl, -, -, -, ha2, hc2⟩ := h2.open
  have H1 := Lib.hid ha
  have H3 := Lib.hid hc
  have H2 := Lib.hid ha2
  have H4 := Lib.hid hc2
  clear ha hc h1 h2 ha2 hc2
  by_cases hl : xs.length = ys.length
  · have e1 : ((xs.length : Int) != (xs.length : Int)) = false := by simp
    rw [← hl]
    have HL := Lib.hid hl
    clear hl
    go_enter Tryz.func24, Tryz.ntmps24
    go_wp2_with fail
    go_loopw [13] (fun i wr => ∃ k q : Nat, k ≤ xs.length ∧ i = .int .i64 k ∧ wr = w.drewN q ∧ Hid (xs.take k = ys.take k)) (fun i _ => xs.length - (intOf i).toNat)
    case atStart => exact ⟨0, 0, by omega, rfl, rfl, rfl⟩
    case round =>
      obtain ⟨k, q, hk, rfl, rfl, HT⟩ := hrel
      by_cases hlt : k < xs.length
      · obtain rfl := H1.out (by omega)
        obtain rfl := H2.out (by have := HL.out; omega)
        obtain ⟨x, hx, hcx⟩ := name_cell (H3.out k hlt)
        obtain ⟨y, hy, hcy⟩ := name_cell (H4.out k (by have := HL.out; omega))
        have HX := Lib.hid hx
        have HY := Lib.hid hy
        clear hx hy
        have hlt' : (k : Int) < xs.length := by omega
        by_cases he : x = y
        · subst he
          go_wp2_with fail
          go_quiet (fail)
          go_wp2_with fail
          go_roundw
          case rel => exact ⟨k + 1, q + nq, by omega, by go_num, rfl, take_step hlt (by have := HL.out; omega) HT.out (HX.out.symm.trans HY.out)⟩
          case measure => simp [intOf]; omega
        · have HNE : Hid (decide (xs = ys) = false) := decide_eq_false_iff_not.2 (by
            rintro rfl
            exact he (HX.out.trans HY.out.symm))
          have e5 : (x != y) = true := by simpa using he
          clear he
          go_wp2_with fail
          go_quiet (fail)
          go_wp2_with fail
          go_ret
          exact ⟨by rw [HNE.out]; rfl, below_drewN (below_drewN (Below.refl _ _) _) _⟩
      · obtain rfl : k = xs.length := by omega
        have HE : Hid (decide (xs = ys) = true) := by
          have := HT.out
          rw [List.take_length, HL.out, List.take_length] at this
          exact decide_eq_true this
        go_wp2_with fail
        go_ret
        exact ⟨by rw [HE.out]; rfl, below_drewN (Below.refl _ _) _⟩
  · have HNE : Hid (decide (xs = ys) = false) := decide_eq_false (fun e => hl (by rw [e]))
    have hb : ((xs.length : Int) != (ys.length : Int)) = true := by simp; omega
    clear hl
    go_enter Tryz.func24, Tryz.ntmps24
    go_wp2_with fail
    go_ret
    exact ⟨by rw [HNE.out]; rfl, Below.refl _ _⟩

theorem texts_eq {v1 v2 : Value} {xs ys : List (List UInt8)} {w : World} (h1 : RowsOf TextR 1 w v1 xs) (h2 : RowsOf TextR 1 w v2 ys) : Calls Tryz.prog 70 #[v1, v2] w (GotEq (decide (xs = ys)) w) := by
  unfold GotEq
  obtain ⟨a, cap, b, off, rfl, hle, ha, hc⟩ := rows_open h1
  obtain ⟨a2, cap2, b2, off2, rfl, -, ha2, hc2⟩ := rows_open h2
  unfold maxLen at hle
  have H1 := Lib.hid ha
  have H3 := Lib.hid hc
  have H2 := Lib.hid ha2
  have H4 := Lib.hid hc2
  clear ha hc h1 h2 ha2 hc2
  by_cases hl : xs.length = ys.length
  · have e1 : ((xs.length : Int) != (xs.length : Int)) = false := by simp
    rw [← hl]
    have HL := Lib.hid hl
    clear hl
    go_enter Tryz.func70, Tryz.ntmps70
    go_wp2_with fail
    go_loopw [13] (fun i wr => ∃ k q : Nat, k ≤ xs.length ∧ i = .int .i64 k ∧ wr = w.drewN q ∧ Hid (xs.take k = ys.take k)) (fun i _ => xs.length - (intOf i).toNat)
    case atStart => exact ⟨0, 0, by omega, rfl, rfl, rfl⟩
    case round =>
      obtain ⟨k, q, hk, rfl, rfl, HT⟩ := hrel
      by_cases hlt : k < xs.length
      · obtain rfl := H1.out (by omega)
        obtain rfl := H2.out (by have := HL.out; omega)
        obtain ⟨x, hx⟩ : ∃ x, xs[k]? = some x := ⟨_, List.getElem?_eq_getElem hlt⟩
        obtain ⟨y, hy⟩ : ∃ y, ys[k]? = some y := ⟨_, List.getElem?_eq_getElem (by have := HL.out; omega)⟩
        obtain ⟨c, ⟨s, rfl, hs⟩, hcx⟩ := H3.out k x hx
        obtain ⟨c2, ⟨s2, rfl, hs2⟩, hcy⟩ := H4.out k y hy
        have hcx : w.cell? ⟨b, off + k, none⟩ = some (.string s) := by have := hcx 0 _ rfl; rwa [Nat.mul_one, Nat.add_zero] at this
        have hcy : w.cell? ⟨b2, off2 + k, none⟩ = some (.string s2) := by have := hcy 0 _ rfl; rwa [Nat.mul_one, Nat.add_zero] at this
        have HX := Lib.hid hx
        have HY := Lib.hid hy
        have HS := Lib.hid hs
        have HS2 := Lib.hid hs2
        clear hx hy hs hs2
        have hlt' : (k : Int) < xs.length := by omega
        by_cases he : x = y
        · subst he
          have e5 : (s.toList == s2.toList) = true := by rw [HS.out, HS2.out]; simp
          have e6 : (s.toList != s2.toList) = false := by rw [HS.out, HS2.out]; simp
          go_wp2_with fail
          go_quiet (fail)
          go_wp2_with fail
          go_roundw
          case rel => exact ⟨k + 1, q + nq, by omega, by go_num, rfl, take_both HX.out HY.out HT.out⟩
          case measure => simp [intOf]; omega
        · have HNE : Hid (decide (xs = ys) = false) := decide_eq_false (get_ne HX.out HY.out he)
          have e5 : (s.toList == s2.toList) = false := by rw [HS.out, HS2.out]; simpa using he
          have e6 : (s.toList != s2.toList) = true := by rw [HS.out, HS2.out]; simpa using he
          clear he
          go_wp2_with fail
          go_quiet (fail)
          go_wp2_with fail
          go_ret
          exact ⟨by rw [HNE.out]; rfl, below_drewN (below_drewN (Below.refl _ _) _) _⟩
      · obtain rfl : k = xs.length := by omega
        have HE : Hid (decide (xs = ys) = true) := by
          have := HT.out
          rw [List.take_length, HL.out, List.take_length] at this
          exact decide_eq_true this
        go_wp2_with fail
        go_ret
        exact ⟨by rw [HE.out]; rfl, below_drewN (Below.refl _ _) _⟩
  · have HNE : Hid (decide (xs = ys) = false) := decide_eq_false (fun e => hl (by rw [e]))
    have hb : ((xs.length : Int) != (ys.length : Int)) = true := by simp; omega
    clear hl
    go_enter Tryz.func70, Tryz.ntmps70
    go_wp2_with fail
    go_ret
    exact ⟨by rw [HNE.out]; rfl, Below.refl _ _⟩
end Go.Proofs.YtcebcncpbedkmaaGreat
